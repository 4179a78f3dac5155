/- Units: one goes, one comes, one changes. -/
import Derived.Test.YtfhckddfmlljfaaUFind
namespace Go.Proofs.Ytfhckddfmlljfaa.TL
open Go
set_option linter.unusedVariables false
set_option linter.unusedSimpArgs false

theorem eraseIdx_td {α : Type} (l : List α) (i : Nat) : l.eraseIdx i = l.take i ++ l.drop (i + 1) := List.eraseIdx_eq_take_drop_succ l i

set_option maxRecDepth 100000 in
theorem Delete_T (u : Nat) (l : List Un) (i : Nat) (hi : i < l.length) (hl : l.length ≤ 1000000) :
    callT Try.prog 47 [.sl 1000 u 0 l.length, i64v i, i64v ((i : Int) + 1)] ⟨[], [(1000, u, ⟨6, rowU l⟩)]⟩
      (fun r h => ∃ u', r = .sl 1000 u' 0 (l.length - 1) ∧ h = [(1000, u', ⟨6, rowU (l.eraseIdx i)⟩)]) := by
  refine callT.mono (K := fun r h => ∃ u' tail, r = .sl 1000 u' 0 (l.length - 1) ∧ h = [(1000, u', ⟨6, rowU (l.eraseIdx i) ++ tail⟩)]) ?_ fun r h hh => ?_
  · obtain ⟨A, x, B, rfl, rfl⟩ : ∃ A x B, l = A ++ x :: B ∧ i = A.length := ⟨l.take i, l[i], l.drop (i + 1), by rw [← List.drop_eq_getElem_cons hi, List.take_append_drop], by simp; omega⟩
    have er : (A ++ x :: B).eraseIdx A.length = A ++ B := by rw [eraseIdx_td]; simp
    rw [er]
    refine callT_of_body [0, 1, 2, 6, 7, 16] [1000] Try.func47 rfl (by decide) (by kernel_rfl) rfl ?_
    simp only [List.length_append, List.length_cons] at hl
    have h1 : ¬ (A.length : Int) = (A.length : Int) + 1 := by omega
    have h2 : ((A.length : Int) + 1) ≤ (A.length : Int) + ((B.length : Int) + 1) := by omega
    have h3 : (A.length : Int) ≤ (A.length : Int) + 1 := by omega
    have e1 : ((A.length : Int) + ((B.length : Int) + 1) - ((A.length : Int) + 1)).toNat = B.length := by omega
    have e2 : max ((A.length : Int) + ((B.length : Int) + 1) - ((A.length : Int) + 1)) 0 = B.length := by omega
    have e3 : ((A.length : Int) + (B.length : Int)).toNat = A.length + B.length := by omega
    have e4 : ((A.length : Int) + ((B.length : Int) + 1) - ((A.length : Int) + (B.length : Int))).toNat = 1 := by omega
    have d1 : List.drop ((A.length + 1) * 6) (rowU A ++ (x.cells ++ rowU B)) = rowU B := by
      have := rowU_drop (A.length + 1) (A ++ x :: B)
      simpa using this
    have d2 : List.take (A.length * 6) (rowU A ++ (x.cells ++ rowU B)) = rowU A := by
      simp
    have d3 : List.take (B.length * 6) (rowU B) = rowU B := List.take_of_length_le (by simp)
    have hxl : x.cells.length = 6 := rfl
    simp [i64v, h1, h2, h3]
    refine draw_one 6 26 (by kernel_rfl) (by kernel_rfl) (by kernel_rfl) (by kernel_rfl) (by kernel_rfl) ?_
    have m1 : min (B.length * 6) (A.length * 6 + (6 + B.length * 6) - (A.length + 1) * 6) = B.length * 6 := by omega
    have m2 : ¬ 6 + B.length * 6 ≤ B.length * 6 := by omega
    obtain ⟨T, hT⟩ : ∃ T, List.drop (A.length * 6 + B.length * 6) (rowU A ++ (x.cells ++ rowU B)) = T := ⟨_, rfl⟩
    have hTl : T.length = 6 := by rw [← hT]; simp [hxl]; omega
    have d4 : List.take ((A.length + B.length) * 6) (rowU A ++ (rowU B ++ T)) = rowU A ++ rowU B := by
      rw [← List.append_assoc]
      exact List.take_left' (by simp; omega)
    simp [e1, e2, e3, e4, d1, d2, d3, hxl, m1, m2, hT, hTl, d4]
    omega
  · obtain ⟨u', tail, rfl, rfl⟩ := hh
    refine VLx.trim 1000 (rowU (l.eraseIdx i)).length rfl (VLx.done ⟨u', rfl, ?_⟩)
    simp [setH]

theorem mvL_rowU {b ver b' ver' : Nat} (l : List Un) : mvL b ver b' ver' (rowU l) = rowU l := mvL_clo _ (rowU_CloL l)
attribute [simp] mvL_rowU

def Tab.kill (t : Tab) (id : Int) : Tab := if found t.l id then ⟨t.l.eraseIdx (pos t.l id), t.next⟩ else t

set_option maxRecDepth 100000 in
theorem Kill_T (v u : Nat) (t : Tab) (id : Int) (ht : t.Ok) : callT Try.prog 14 [.at 1000 v 0, i64v id] ⟨[], tabH v u t⟩ (fun r h => ∃ u', r = .v (.bool (found t.l id)) ∧ h = tabH v u' (t.kill id)) := by
  by_cases hf : found t.l id = true
  · have hp := found_lt hf
    refine callT.mono (K := fun r h => ∃ u', r = .v (.bool true) ∧ h = [(1000, v, ⟨0, [.sl 19 u' 0 (t.l.length - 1), i64v t.next]⟩), (19, u', ⟨6, rowU (t.l.eraseIdx (pos t.l id))⟩)]) ?_ fun r h hh => ?_
    · refine callT_of_body [0, 1, 4, 5, 6, 13] [1000, 19] Try.func14 rfl (by decide) (by kernel_rfl) rfl ?_
      simp
      refine callT_eq [(1000, 1000), (1001, 1001)] (Find_T v u t id ht) ?_
      simp [hf, i64v]
      refine callT_ex [(1000, 1001), (5, 19)] (Clone_T u t.l.length (rowU t.l) (by omega) (by simp) (by simp) (by simp) ht.len) ?_
      simp
      intro u1
      have e1 : IntKind.i64.wrap ((pos t.l id : Int) + 1) = (pos t.l id : Int) + 1 := i64_id (by omega) (by have := ht.len; omega)
      simp [e1]
      refine callT_ex [(1000, 19)] (Delete_T u1 t.l (pos t.l id) hp ht.len) ?_
      simp [i64v]
    · obtain ⟨u', rfl, rfl⟩ := hh
      refine VLx.mv 19 1001 rfl rfl fun u2 => VLx.done ⟨u2, by simp [hf], ?_⟩
      simp [i64v, Tab.kill, hf, List.length_eraseIdx_of_lt hp]
  · refine callT_of_body [0, 1, 4, 5, 6, 13] [1000, 1001] Try.func14 rfl (by decide) (by kernel_rfl) rfl ?_
    simp
    refine callT_eq [(1000, 1000), (1001, 1001)] (Find_T v u t id ht) ?_
    simp [hf, i64v, Tab.kill]

def Tab.canSpawn (t : Tab) (a b c d : Int) : Bool := decide (t.l.length < 64) && (mayF 0 a && (mayF 1 b && (mayF 2 c && (mayF 3 d && decide (t.next < 1099511627776)))))
def Tab.spawn (t : Tab) (a b c d : Int) : Tab × Int := if t.canSpawn a b c d then (⟨t.l ++ [⟨t.next, a, b, c, d, 1000⟩], t.next + 1⟩, t.next) else (t, 0)

set_option maxRecDepth 100000 in
theorem Spawn_T (v u : Nat) (t : Tab) (a b c d : Int) (ht : t.Ok) (hn : 0 ≤ t.next) : callT Try.prog 17 [.at 1000 v 0, i64v a, i64v b, i64v c, i64v d] ⟨[], tabH v u t⟩ (fun r h => ∃ u', r = i64v (t.spawn a b c d).2 ∧ h = tabH v u' (t.spawn a b c d).1) := by
  have hl := ht.len
  refine callT_of_body [0, 1, 2, 3, 4, 10, 11, 44] [1000, 1001] Try.func17 rfl (by decide) (by kernel_rfl) rfl ?_
  by_cases h0 : (64 : Int) ≤ t.l.length
  · have h0' : ¬ t.l.length < 64 := by omega
    simp [h0, i64v, Tab.spawn, Tab.canSpawn, h0']
  have h0' : t.l.length < 64 := by omega
  by_cases h1 : mayF 0 a = false
  · simp [h0, i64v]
    refine callT_eq [] (May_T 0 a) ?_
    simp [i64v, h1, Tab.spawn, Tab.canSpawn]
  rw [Bool.not_eq_false] at h1
  by_cases h2 : mayF 1 b = false
  · simp [h0, i64v]
    refine callT_eq [] (May_T 0 a) ?_
    simp [i64v, h1]
    refine callT_eq [] (May_T 1 b) ?_
    simp [i64v, h2, Tab.spawn, Tab.canSpawn]
  rw [Bool.not_eq_false] at h2
  by_cases h3 : mayF 2 c = false
  · simp [h0, i64v]
    refine callT_eq [] (May_T 0 a) ?_
    simp [i64v, h1]
    refine callT_eq [] (May_T 1 b) ?_
    simp [i64v, h2]
    refine callT_eq [] (May_T 2 c) ?_
    simp [i64v, h3, Tab.spawn, Tab.canSpawn]
  rw [Bool.not_eq_false] at h3
  simp [h0, i64v]
  refine callT_eq [] (May_T 0 a) ?_
  simp [i64v, h1]
  refine callT_eq [] (May_T 1 b) ?_
  simp [i64v, h2]
  refine callT_eq [] (May_T 2 c) ?_
  simp [i64v, h3]
  refine callT_eq [] (May_T 3 d) ?_
  by_cases h4 : mayF 3 d = false
  · simp [i64v, h4, Tab.spawn, Tab.canSpawn]
  rw [Bool.not_eq_false] at h4
  by_cases h5 : 1099511627776 ≤ t.next
  · have h5' : ¬ t.next < 1099511627776 := by omega
    simp [i64v, h4, h5, Tab.spawn, Tab.canSpawn, h5']
  have h5' : t.next < 1099511627776 := by omega
  simp [i64v, h4, h5]
  intro v1
  refine draw_one 7 62 (by kernel_rfl) (by kernel_rfl) (by kernel_rfl) (by kernel_rfl) (by kernel_rfl) ?_
  simp
  have e1 : IntKind.i64.wrap (t.next + 1) = t.next + 1 := i64_id (by omega) (by omega)
  simp [e1, h1, h2, h3, h4, h5', h0', Tab.spawn, Tab.canSpawn, i64v, Un.cells]
  exact ⟨by omega, by omega, List.take_of_length_le (by simp)⟩
end Go.Proofs.Ytfhckddfmlljfaa.TL
