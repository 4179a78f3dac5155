/- The law's Few and Told; its awake. -/
import Derived.Test.YtkggjmoghpmelaaURosV
import Derived.Test.YtkggjmoghpmelaaURos
import Derived.Test.YtkggjmoghpmelaaTD
namespace Go.Proofs.Ytkggjmoghpmelaa.TL
open Go
set_option linter.unusedVariables false
set_option linter.unusedSimpArgs false

def few1 (c : Chg) : Chg := ⟨c.k, c.p, c.v.take 34⟩
def few (l : List Chg) : List Chg := (l.take 10).map few1
theorem few_length (l : List Chg) : (few l).length = min 10 l.length := by simp [few]
theorem rowG_snoc (l : List Chg) (c : Chg) : rowG (l ++ [c]) = rowG l ++ c.cells := by simp [rowG]

set_option maxHeartbeats 2000000 in
set_option maxRecDepth 100000 in
theorem Few_T (l : List Chg) (hl : l.length ≤ maxLen) : callT Try.prog 54 [.isl (rowG l) l.length] ⟨[], []⟩ (fun x h => x = .isl (rowG (few l)) (few l).length ∧ h = []) := by
  refine callT.mono (K := fun x h => ∃ u, x = .sl 1001 u 0 (few l).length ∧ h = [(1001, u, ⟨3, rowG (few l)⟩)]) ?_ fun x h hh => ?_
  · refine callT_of_body [0, 2, 3, 4, 5, 13, 23] [1001] Try.func54 rfl (by decide) (by kernel_rfl) rfl ?_
    simp
    refine ⟨Nat × Nat, fun x => x.1 ≤ 10 ∧ x.1 ≤ l.length, fun x => ⟨[(0, .isl (rowG l) l.length), (3, .sl 1001 x.2 0 (few (l.take x.1)).length), (4, .v (.int .i64 x.1))], [(1001, x.2, ⟨3, rowG (few (l.take x.1))⟩)]⟩, fun x => 10 - x.1, ?_, ?_⟩
    · refine SLx.nil 3 1001 3 (by decide) (by simp) fun u => SLx.fin _ ⟨(0, u), by simp, rfl⟩ (by simp [few]) (by simp [few])
    rintro ⟨k, u⟩ ⟨hk, hkl⟩
    simp only at hk hkl ⊢
    by_cases g : k < l.length
    · by_cases g2 : k < 10
      · have hat := rowG_at g
        have hsn : few (l.take (k + 1)) = few (l.take k) ++ [few1 l[k]] := by
          unfold few
          rw [List.take_take, List.take_take, Nat.min_eq_right (by omega), Nat.min_eq_right (by omega), List.take_succ_eq_append_getElem g, List.map_append]
          rfl
        have hfl := few_length (l.take k)
        generalize few (l.take k) = F at hsn hfl ⊢
        have htk : List.take (F.length * 3) (rowG F) = rowG F := List.take_of_length_le (by simp)
        have hF : F.length ≤ 10 := by omega
        have g2' : (k : Int) < 10 := by omega
        have e1 : IntKind.i64.wrap ((k : Int) + 1) = ((k + 1 : Nat) : Int) := by rw [i64_id (by omega) (by omega)]; rfl
        by_cases g3 : 34 < l[k].v.length
        · have g3' : (34 : Int) < l[k].v.length := by omega
          have hm : min 34 l[k].v.length = 34 := by omega
          simp [g, g2, g2', hat, i64c]
          intro v5
          simp [g3, g3', i64c]
          refine ⟨⟨by omega, fun v => ⟨by omega, by omega, fun u2 => ?_⟩⟩, fun hh => by omega⟩
          exact SLx.again (k + 1, u2) ⟨by simp only; omega, by simp only; omega⟩ (by simp only; omega) (by simp [e1, hsn]) (by simp [hsn, rowG_snoc, htk, few1, Chg.cells, i64c, hm])
        · have g3' : ¬ (34 : Int) < l[k].v.length := by omega
          have hm : min 34 l[k].v.length = l[k].v.length := by omega
          have ht : List.take 34 l[k].v = l[k].v := List.take_of_length_le (by omega)
          simp [g, g2, g2', hat, i64c]
          intro v5
          simp [g3, g3', i64c]
          refine fun _ v => ⟨by omega, by omega, fun u2 => ?_⟩
          exact SLx.again (k + 1, u2) ⟨by simp only; omega, by simp only; omega⟩ (by simp only; omega) (by simp [e1, hsn]) (by simp [hsn, rowG_snoc, htk, few1, Chg.cells, i64c, hm, ht])
      · have : ¬ (k : Int) < 10 := by omega
        have h10 : few (l.take k) = few l := by
          unfold few
          rw [List.take_take, Nat.min_eq_left (by omega)]
        simp [g, g2, this, h10]
    · have : k = l.length := by omega
      subst this
      simp
  · obtain ⟨u, rfl, rfl⟩ := hh
    refine VLx.frz 1001 rfl (VLx.done ?_)
    have htk : List.take ((few l).length * 3) (rowG (few l)) = rowG (few l) := List.take_of_length_le (by simp)
    simp [htk]

set_option maxHeartbeats 2000000 in
set_option maxRecDepth 100000 in
theorem Told_T (l : List Chg) (hl : l.length ≤ 1000000) : callT Try.prog 59 [.isl (rowG l) l.length] ⟨[], []⟩ (fun x h => x = .isl (rowG l) l.length ∧ h = []) := by
  refine callT.mono (K := fun x h => ∃ u, x = .sl 6 u 0 l.length ∧ h = [(6, u, ⟨3, rowG l⟩)]) ?_ fun x h hh => ?_
  · refine callT_of_body [0, 2, 3, 5, 7, 8, 9, 10] [6] Try.func59 rfl (by decide) (by kernel_rfl) rfl ?_
    simp
    intro v6
    refine loopT_of (Nat × Nat) (fun x => x.1 ≤ l.length) (fun x => ⟨[(3, .sl 6 x.2 0 x.1), (7, .isl (rowG l) l.length), (8, .v (.int .i64 l.length)), (9, .v (.int .i64 x.1))], [(6, x.2, ⟨3, rowG (l.take x.1)⟩)]⟩) (fun x => l.length - x.1) (0, v6) (by simp) (by simp) (by simp) ?_
    rintro ⟨k, u⟩ hk
    simp only at hk ⊢
    by_cases g : k < l.length
    · have hat := rowG_at g
      have hsn : rowG (l.take (k + 1)) = rowG (l.take k) ++ l[k].cells := by rw [List.take_succ_eq_append_getElem g, rowG_snoc]
      have hkl : (l.take k).length = k := by simp; omega
      have htk : List.take (k * 3) (rowG (l.take k)) = rowG (l.take k) := List.take_of_length_le (by simp; omega)
      have hlen : (rowG (l.take k)).length = k * 3 := by simp; omega
      have e1 : IntKind.i64.wrap ((k : Int) + 1) = ((k + 1 : Nat) : Int) := by rw [i64_id (by omega) (by omega)]; rfl
      generalize rowG (l.take k) = F at hsn htk hlen ⊢
      simp [g, hat, i64c]
      refine fun v5 v => ⟨by omega, by omega, by omega, fun u2 => ?_⟩
      have hF : List.drop (k * 3 + 3) F = [] := List.drop_of_length_le (by omega)
      exact SLx.again (k + 1, u2) (by simp only; omega) (by simp only; omega) (by simp [e1]) (by simp [hsn, htk, hF, Chg.cells, i64c])
    · have : k = l.length := by omega
      subst this
      simp
  · obtain ⟨u, rfl, rfl⟩ := hh
    refine VLx.frz 6 rfl (VLx.done ?_)
    have htk : List.take (l.length * 3) (rowG l) = rowG l := List.take_of_length_le (by simp)
    simp [htk]

end Go.Proofs.Ytkggjmoghpmelaa.TL
