/- Units: their bytes. -/
import Derived.Test.YtfhckddfmlljfaaUSet
import Derived.Test.YtfhckddfmlljfaaULaw8
import Derived.Test.YtfhckddfmlljfaaUOut
namespace Go.Proofs.Ytfhckddfmlljfaa.TL
open Go
set_option linter.unusedVariables false
set_option linter.unusedSimpArgs false

def Un.flds (w : Un) : List Int := [w.a, w.b, w.c, w.d, w.e]
/-- The bytes of units behind one of number last. -/
def ubs : Int → List Un → List UInt8
  | _, [] => []
  | last, w :: l => nb (w.id - last).toNat ++ (nbs (w.flds.map zig) ++ ubs w.id l)
def lastId : Int → List Un → Int
  | z, [] => z
  | _, w :: l => lastId w.id l
def tabB (t : Tab) : List UInt8 := nb t.next.toNat ++ (nb t.l.length ++ ubs 0 t.l)

theorem ubs_snoc : ∀ (l : List Un) (z : Int) (w : Un), ubs z (l ++ [w]) = ubs z l ++ (nb (w.id - lastId z l).toNat ++ nbs (w.flds.map zig))
  | [], z, w => by simp [ubs, lastId]
  | a :: l, z, w => by simp [ubs, lastId, ubs_snoc l a.id w]
theorem lastId_snoc : ∀ (l : List Un) (z : Int) (w : Un), lastId z (l ++ [w]) = w.id
  | [], z, w => rfl
  | a :: l, z, w => by simp [lastId, lastId_snoc l a.id w]
theorem fok_rng {w : Un} (h : w.fok) : ∀ x ∈ w.flds, -1000 ≤ x ∧ x ≤ 1000 := fun x hx => by
  obtain ⟨h1, h2, h3, h4, h5⟩ := h
  simp [mayF] at h1 h2 h3 h4 h5
  simp only [Un.flds, List.mem_cons, List.not_mem_nil, or_false] at hx
  rcases hx with rfl | rfl | rfl | rfl | rfl <;> omega
theorem last_lt {t : Tab} (h : t.WF) (k : Nat) : 0 ≤ lastId 0 (t.l.take k) ∧ lastId 0 (t.l.take k) < t.next ∧ ∀ (hk : k < t.l.length), lastId 0 (t.l.take k) < t.l[k].id := by
  induction k with
  | zero => exact ⟨by simp [lastId], by have := h.nx; simp [lastId]; omega, fun hk => by have := (h.lt _ (List.getElem_mem hk)).1; simp [lastId]; omega⟩
  | succ k ih =>
    by_cases hk : k < t.l.length
    · rw [List.take_succ_eq_append_getElem hk, lastId_snoc]
      have := h.lt _ (List.getElem_mem hk)
      exact ⟨by omega, by omega, fun hk1 => List.pairwise_iff_getElem.1 h.asc k (k + 1) hk hk1 (by omega)⟩
    · rw [List.take_of_length_le (by omega)]
      rw [List.take_of_length_le (by omega)] at ih
      exact ⟨ih.1, ih.2.1, fun hk1 => by omega⟩
theorem ubs_len {t : Tab} (h : t.WF) (k : Nat) : (ubs 0 (t.l.take k)).length ≤ 60 * k := by
  induction k with
  | zero => simp [ubs]
  | succ k ih =>
    by_cases hk : k < t.l.length
    · rw [List.take_succ_eq_append_getElem hk, ubs_snoc]
      have h1 := h.lt _ (List.getElem_mem hk)
      have h2 := last_lt h k
      have hn := h.nx
      have e1 := nb_len10 (n := (t.l[k].id - lastId 0 (t.l.take k)).toNat) (by omega)
      have e2 := nbs_len (l := t.l[k].flds.map zig) fun n hn => by
        obtain ⟨x, hx, rfl⟩ := List.mem_map.1 hn
        have := fok_rng (h.fo _ (List.getElem_mem hk)) x hx
        exact zig_lt (by omega) (by omega)
      simp [Un.flds] at e2
      simp only [List.length_append, Un.flds, List.map_cons, List.map_nil]
      omega
    · rw [List.take_of_length_le (by omega)]
      rw [List.take_of_length_le (by omega)] at ih
      omega

set_option maxHeartbeats 1000000 in
set_option maxRecDepth 100000 in
theorem Text8_T (v u : Nat) (t : Tab) (ht : t.WF) : callT Try.prog 39 [.at 1000 v 0] ⟨[], tabH v u t⟩ (fun r h => r = .v (.string (bs (tabB t))) ∧ h = tabH v u t) := by
  have hnx := ht.nx
  have hlen := ht.len
  refine callT_of_body [0, 2, 3, 4, 6, 24, 25, 26, 27] [1000, 1001] Try.func39 rfl (by decide) (by kernel_rfl) rfl ?_
  simp
  intro v3
  refine draw_g [0, 1, 2, 3, 4, 5, 7, 8, 9, 10, 11, 12, 6] 13 [(6, [0, 1, 2, 3, 4, 5])] (by kernel_rfl) (by kernel_rfl) (by kernel_rfl) ?_
  have e1 : IntKind.u64.wrap t.next = t.next := u64_id (by omega) (by omega)
  have hmx : max t.next 0 = t.next := by omega
  simp [i64v, e1]
  have hc := OutNum_T v3 0 [] [t.next.toNat] (by simp; omega) (by simp)
  refine callT.pre (fn_of hc) (CLx.nilCell 3 0 1002 1 (by decide) (by decide) rfl rfl fun v1 => CLx.done ?_)
  simp
  have hc1 := OutNum_T v3 v1 [] [t.next.toNat] (by simp; omega) (by simp)
  refine callT_ex [(1000, 3), (1001, 1002)] hc1 ?_
  simp [u64c, hmx]
  intro u1
  have h10 := nb_len10 (n := t.next.toNat) (by omega)
  have h10l := nb_len10 (n := t.l.length) (by omega)
  refine callT_ex [(1000, 3), (1001, 1002)] (OutCount_T v3 u1 (nb t.next.toNat) [(t.l.length : Int)] (by simp; omega) (by simp; omega)) ?_
  simp [i64c]
  intro u2
  refine loopT_of (Nat × Nat) (fun x => x.1 ≤ t.l.length) (fun x => ⟨[(3, .at 3 v3 0), (4, i64v (lastId 0 (t.l.take x.1))), (24, .sl 1001 u 0 t.l.length), (25, .v (.int .i64 t.l.length)), (26, .v (.int .i64 x.1))], tabH v u t ++ [(3, v3, ⟨0, [.sl 1002 x.2 0 (nb t.next.toNat ++ (nb t.l.length ++ ubs 0 (t.l.take x.1))).length]⟩), (1002, x.2, ⟨1, (nb t.next.toNat ++ (nb t.l.length ++ ubs 0 (t.l.take x.1))).map bv⟩)]⟩) (fun x => t.l.length - x.1) (0, u2) (by simp) (by simp [i64v, lastId]) (by simp [i64v, ubs]) ?_
  rintro ⟨k, u3⟩ hk
  simp only at hk ⊢
  by_cases h1 : k < t.l.length
  · have hul := ubs_len ht k
    generalize hw1 : nb t.next.toNat ++ (nb t.l.length ++ ubs 0 (t.l.take k)) = w1
    have hw1l : w1.length ≤ 10000 := by rw [← hw1]; simp only [List.length_append]; omega
    simp [h1, rowU_at h1, i64v]
    intro v6
    refine draw_pre (SLx.frz 6 rfl (SLx.done ?_))
    simp
    refine draw_g [0, 1, 2, 3, 4, 5, 7, 8, 6] 9 [(6, [0, 1, 2, 3, 4, 5])] (by kernel_rfl) (by kernel_rfl) (by kernel_rfl) ?_
    have hid := ht.lt _ (List.getElem_mem h1)
    have hlast := last_lt ht k
    have hl3 := hlast.2.2 h1
    have e2 : IntKind.i64.wrap (t.l[k].id - lastId 0 (t.l.take k)) = t.l[k].id - lastId 0 (t.l.take k) := i64_id (by omega) (by omega)
    have e3 : IntKind.u64.wrap (t.l[k].id - lastId 0 (t.l.take k)) = t.l[k].id - lastId 0 (t.l.take k) := u64_id (by omega) (by omega)
    have e4 : max (t.l[k].id - lastId 0 (t.l.take k)) 0 = t.l[k].id - lastId 0 (t.l.take k) := by omega
    have hk10 := nb_len10 (n := (t.l[k].id - lastId 0 (t.l.take k)).toNat) (by omega)
    have hfr := fok_rng (ht.fo _ (List.getElem_mem h1))
    simp [e2, e3]
    refine callT_ex [(1000, 3), (1001, 1002)] (OutNum_T v3 u3 w1 [(t.l[k].id - lastId 0 (t.l.take k)).toNat] (by simp; omega) (by simp; omega)) ?_
    simp [u64c, e4]
    intro u4
    refine callT_ex [(1000, 3), (1001, 1002)] (OutInt_T v3 u4 (w1 ++ nb (t.l[k].id - lastId 0 (t.l.take k)).toNat) t.l[k].flds (fun x hx => by have := hfr x hx; omega) (by simp [Un.flds]; omega)) ?_
    simp [i64c, Un.flds]
    intro u5
    have e5 : IntKind.i64.wrap ((k : Int) + 1) = ((k + 1 : Nat) : Int) := by rw [i64_id (by omega) (by omega)]; rfl
    have e6 : nb t.next.toNat ++ (nb t.l.length ++ ubs 0 (t.l.take (k + 1))) = w1 ++ (nb (t.l[k].id - lastId 0 (t.l.take k)).toNat ++ nbs (t.l[k].flds.map zig)) := by
      rw [List.take_succ_eq_append_getElem h1, ubs_snoc, ← hw1]; simp
    have e7 := congrArg (List.map bv) e6
    have e8 := congrArg List.length e6
    refine SLx.again (k + 1, u5) (by simp only; omega) (by simp only; omega) ?_ ?_
    · rw [List.take_succ_eq_append_getElem h1, lastId_snoc]
      simp [e5, i64v]
    · simp [Un.flds, i64v] at e7 e8 ⊢
      exact ⟨by omega, e7.symm⟩
  · have : k = t.l.length := by omega
    subst this
    simp [i64v]
    refine callT_eq [(1000, 3), (1001, 1002)] (OutText_T v3 u3 (tabB t)) ?_
    simp [tabB, i64v]
end Go.Proofs.Ytfhckddfmlljfaa.TL
