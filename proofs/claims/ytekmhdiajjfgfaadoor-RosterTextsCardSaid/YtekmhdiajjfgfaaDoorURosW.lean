/- The roster: behind changes. -/
import Derived.Test.YtekmhdiajjfgfaaDoorURosC
namespace Go.Proofs.YtekmhdiajjfgfaaDoor.TL
open Go
set_option linter.unusedVariables false
set_option linter.unusedSimpArgs false

def rowG (l : List Chg) : List TV := (l.map Chg.cells).flatten
@[simp] theorem rowG_nil : rowG [] = [] := rfl
@[simp] theorem rowG_cons (o : Chg) (l : List Chg) : rowG (o :: l) = o.cells ++ rowG l := rfl
@[simp] theorem rowG_length : ∀ l : List Chg, (rowG l).length = l.length * 3
  | [] => rfl
  | o :: l => by rw [rowG_cons, List.length_append, rowG_length l, List.length_cons, show o.cells.length = 3 from rfl]; omega
@[simp] theorem rowG_CloL : ∀ l : List Chg, CloL (rowG l)
  | [] => trivial
  | o :: l => ⟨trivial, trivial, ⟨CloL_i64c o.v, rowG_CloL l⟩⟩
theorem rowG_drop : ∀ (n : Nat) (l : List Chg), (rowG l).drop (n * 3) = rowG (l.drop n)
  | 0, l => by simp
  | n + 1, [] => by simp [rowG]
  | n + 1, c :: l => by
    rw [show (n + 1) * 3 = n * 3 + 3 by omega]
    have := rowG_drop n l
    simpa [rowG, Chg.cells] using this
theorem rowG_at {l : List Chg} {k : Nat} (h : k < l.length) : List.drop (k * 3) (rowG l) = i64c l[k].k :: i64c l[k].p :: .isl (l[k].v.map i64c) l[k].v.length :: rowG (l.drop (k + 1)) := by
  rw [rowG_drop, List.drop_eq_getElem_cons h]
  rfl
def Ros.app (r : Ros) (c : Chg) : Ros := ⟨r.s ^^^ 2 ^ c.p.toNat, r.e + 1⟩
def Ros.goW (was : Ros) : Ros → List Chg → Ros × Int
  | r, [] => (r, 0)
  | r, c :: l => if r.chk c ≠ 0 then (was, r.chk c) else Ros.goW was (r.app c) l
theorem chk_rng {r : Ros} {c : Chg} (h : r.chk c = 0) : 0 ≤ c.p ∧ c.p < 32 := by
  unfold Ros.chk at h
  split at h
  · cases h
  split at h
  · cases h
  omega
theorem app_lt {r : Ros} {c : Chg} (hs : r.s < 2 ^ 32) (h : r.chk c = 0) : (r.app c).s < 2 ^ 32 := Nat.xor_lt_two_pow hs (pow_lt32 (by have := chk_rng h; omega))

set_option maxHeartbeats 2000000 in
set_option maxRecDepth 100000 in
theorem RWith_T (r : Ros) (l : List Chg) (hs : r.s < 2 ^ 32) (hl : l.length ≤ 1000000) (hv : ∀ c ∈ l, c.v.length ≤ 1000000) (he : 0 ≤ r.e) (he2 : r.e ≤ 9223372036853775807) : callT Tryd.prog 13 [.agg r.cells, .isl (rowG l) l.length] ⟨[], []⟩ (fun x h => x = .tup [.agg (r.goW r l).1.cells, i64c (r.goW r l).2] ∧ h = []) := by
  refine callT_of_body [0, 1, 2, 4, 5, 6, 8, 9, 11, 12, 13, 14, 21] [] Tryd.func13 rfl (by decide) (by kernel_rfl) rfl ?_
  simp [Ros.cells, u32v, i64c]
  intro v2 v4 v6
  refine loopT_of (Nat × Ros × Nat) (fun x => x.1 ≤ l.length ∧ r.goW x.2.1 (l.drop x.1) = r.goW r l ∧ x.2.1.s < 2 ^ 32 ∧ x.2.1.e = r.e + x.1) (fun x => ⟨[(2, .at 2 v2 0), (4, .at 4 v4 0), (6, .at 6 v6 0), (11, .isl (rowG l) l.length), (12, .v (.int .i64 l.length)), (13, .v (.int .i64 x.1))], [(2, v2, ⟨0, [u32v x.2.1.s, i64c x.2.1.e]⟩), (4, v4, ⟨0, [.v (.int .u32 0), .v (.int .i64 0)]⟩), (6, v6, ⟨0, [u32v r.s, i64c r.e]⟩)]⟩) (fun x => l.length - x.1) (0, r, 0) ⟨by simp, by simp, hs, by simp⟩ (by simp) (by simp [u32v, i64c]) ?_
  rintro ⟨k, w, z⟩ ⟨hk, hw, hws, hwe⟩
  simp only at hk hw hws hwe ⊢
  by_cases h1 : k < l.length
  · have hat := rowG_at h1
    have hvk := hv l[k] (List.getElem_mem h1)
    rw [List.drop_eq_getElem_cons h1] at hw
    have e1 : IntKind.i64.wrap ((k : Int) + 1) = ((k + 1 : Nat) : Int) := by rw [i64_id (by omega) (by omega)]; rfl
    simp [h1, hat, i64c, u32v]
    intro v8
    refine callT_eq [] (RChk_T w l[k] hws hvk) ?_
    by_cases hc : w.chk l[k] = 0
    · have hr := chk_rng hc
      have hone := u32_one l[k].p.toNat (by omega)
      have hx := u32_xor hws (pow_lt32 (p := l[k].p.toNat) (by omega))
      rw [show ((2 ^ l[k].p.toNat : Nat) : Int) = (2 : Int) ^ l[k].p.toNat by simp] at hx hone
      simp only [Int.one_mul] at hone
      have e2 : IntKind.i64.wrap (w.e + 1) = w.e + 1 := i64_id (by omega) (by omega)
      simp [Ros.cells, Chg.cells, u32v, i64c, hc]
      refine draw_g [0, 1, 2, 3, 4] 5 [] (by kernel_rfl) (by kernel_rfl) (by kernel_rfl) ?_
      simp [hr, hone, hx, e2]
      have hgo : r.goW (w.app l[k]) (l.drop (k + 1)) = r.goW r l := by rw [← hw, Ros.goW, if_neg (by simp [hc])]
      exact SLx.again (k + 1, w.app l[k], 0) ⟨by simp only; omega, hgo, app_lt hws hc, by simp only [Ros.app]; omega⟩ (by simp only; omega) (by simp [e1]) (by simp [Ros.app, u32v, i64c])
    · have hno : r.goW r l = (r, w.chk l[k]) := by rw [← hw, Ros.goW, if_pos hc]
      simp [Ros.cells, Chg.cells, u32v, i64c, hc, hno]
  · have : k = l.length := by omega
    subst this
    have hno : r.goW r l = (w, 0) := by rw [← hw]; simp [Ros.goW]
    simp [Ros.cells, u32v, i64c, hno]
end Go.Proofs.YtekmhdiajjfgfaaDoor.TL
