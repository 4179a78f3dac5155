/- A block that never changes any more, where cells of other blocks name it. -/
import Derived.Test.YtekmhdiajjfgfaaDoorTg3
namespace Go.Proofs.YtekmhdiajjfgfaaDoor.TL
open Go
set_option linter.unusedVariables false
set_option linter.unusedSimpArgs false
variable {e : Ent} {E : Env} {w : World}

def frzH (b ver : Nat) (B : Blk) : Heap → Heap
  | [] => []
  | (n, v, C) :: l => (n, v, ⟨C.k, frzL b ver B C.cells⟩) :: frzH b ver B l
attribute [simp] frzH
theorem getH_frzH (b ver : Nat) (B : Blk) : ∀ (h : Heap) (n : Nat), getH (frzH b ver B h) n = (getH h n).map fun p => (p.1, ⟨p.2.k, frzL b ver B p.2.cells⟩)
  | [], _ => rfl
  | (m, v, C) :: l, n => by
    simp only [frzH, getH]
    split
    · rfl
    · exact getH_frzH b ver B l n
theorem SatH.frzH {h : Heap} (H : SatH e E h w) {b ver : Nat} {B : Blk} (hb : getH h b = some (ver, B)) : SatH e (E.frz w b) (frzH b ver B (delH h b)) w := by
  have H1 := H.frz b
  refine ⟨H1.imm, fun x v C hx => ?_, fun x hx => ?_, H1.vers, H1.ownd, H1.apart, H1.gr⟩
  · rw [getH_frzH, getH_delH] at hx
    split at hx
    · cases hx
    · rename_i hxb
      cases hg : getH h x with
      | none => rw [hg] at hx; cases hx
      | some p =>
        obtain ⟨v0, C0⟩ := p
        rw [hg] at hx
        cases hx
        obtain ⟨R, h1, h2⟩ := H.live x v0 C0 hg
        refine ⟨R, by simp only [Env.frz, if_neg hxb]; exact h1, ?_⟩
        rcases h2 with ⟨r1, r2, r3⟩ | ⟨q, q1, q2, q3, q4, q5⟩
        · exact .inl ⟨r1, r2, by simp only; rw [r3]; rfl⟩
        · obtain ⟨k1, k2⟩ := RVl_frz H hb C0.cells _ _ q5
          exact .inr ⟨q, q1, q2, by simp only; rw [k1]; exact q3, q4, k2⟩
  · rw [getH_frzH, Option.map_eq_none_iff] at hx
    exact H1.dead x hx
theorem VLx.frzH {r : TV} {h : Heap} {S : TV → Heap → Prop} (b : Nat) {ver : Nat} {B : Blk} (hb : getH h b = some (ver, B)) (k : VLx (frzT b ver B r) (frzH b ver B (delH h b)) S) : VLx r h S := fun e E w v H hr =>
  let ⟨r', h'', E', a, l, c, d⟩ := k e _ w v (H.frzH hb) (RV_frz H hb r v hr)
  ⟨r', h'', E', a, (H.le_frz b).trans l, c, d⟩
theorem SLx.frzH {s : TS} {S : TS → Prop} (b : Nat) {ver : Nat} {B : Blk} (hb : getH s.h b = some (ver, B)) (k : SLx ⟨s.t.map fun p => (p.1, frzT b ver B p.2), frzH b ver B (delH s.h b)⟩ S) : SLx s S := fun e E w tmps H hT => by
  refine SLx.step k (H.le_frz b) (H.frzH hb) (fun n => ?_)
  have : getT (s.t.map fun p => (p.1, frzT b ver B p.2)) n = frzT b ver B (getT s.t n) := by
    induction s.t with
    | nil => simp [getT, frzT]
    | cons p l ih =>
      obtain ⟨m, x⟩ := p
      simp only [List.map_cons, getT]
      split
      · rfl
      · exact ih
  rw [this]
  exact RV_frz H hb _ _ (hT n)
theorem CLx.frzH {args : List TV} {h : Heap} {S : List TV → Heap → Prop} (b : Nat) {ver : Nat} {B : Blk} (hb : getH h b = some (ver, B)) (k : CLx (frzL b ver B args) (frzH b ver B (delH h b)) S) : CLx args h S := fun e E w f H hv => by
  obtain ⟨k1, k2⟩ := RVl_frz H hb args f 0 hv
  obtain ⟨args', h', E', a, hl, l, c, d⟩ := k e _ w f (H.frzH hb) k2
  exact ⟨args', h', E', a, by rw [hl, k1], (H.le_frz b).trans l, c, d⟩
end Go.Proofs.YtekmhdiajjfgfaaDoor.TL
