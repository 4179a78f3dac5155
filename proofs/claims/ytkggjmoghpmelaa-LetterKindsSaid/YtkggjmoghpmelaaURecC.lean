/- Records: may they be; who plays. -/
import Derived.Test.YtkggjmoghpmelaaURecS
import Derived.Test.YtkggjmoghpmelaaURos
namespace Go.Proofs.Ytkggjmoghpmelaa.TL
open Go
set_option linter.unusedVariables false
set_option linter.unusedSimpArgs false

theorem rowP_get {l : List Ply} {i : Nat} (h : i < l.length) : (l[i]?.getD ⟨0, []⟩) = l[i] := by simp [h]
def plyAt (l : List Ply) (i : Nat) : Ply := l[i]?.getD ⟨0, []⟩
/-- What the i-th play is refused for. -/
def plyChk (l : List Ply) (i : Nat) : Int :=
  if (plyAt l i).p < 0 ∨ 32 ≤ (plyAt l i).p then 13
  else if 0 < i ∧ (plyAt l i).p ≤ (plyAt l (i - 1)).p then 12
  else batchChk (plyAt l i).b
def wgo (l : List Ply) : Nat → Nat → Int
  | 0, _ => 0
  | n + 1, i => if plyChk l i ≠ 0 then plyChk l i else wgo l n (i + 1)
def wchk (l : List Ply) : Int := wgo l l.length 0

def Rec.ros (r : Rec) (was : Ros) : Ros × Int := if 8 < r.c.length then (was, 8) else was.goW was r.c
def pchk (t d : Int) : Int := if t < 1 ∨ 64 < t ∨ d < 1 ∨ 6 < d then 4 else 0
def pls (l : List Ply) : List Int := l.map Ply.p
@[simp] theorem pls_length (l : List Ply) : (pls l).length = l.length := by simp [pls]
@[simp] theorem pls_nil : pls [] = [] := rfl
theorem pls_snoc (l : List Ply) (p : Ply) : pls (l ++ [p]) = pls l ++ [p.p] := by simp [pls]
def Rec.chk (r : Rec) (next : Int) (was : Ros) : Int :=
  if r.t ≠ next then 12
  else if (r.pt ≠ 0 ∨ r.pd ≠ 0) ∧ pchk r.pt r.pd ≠ 0 then pchk r.pt r.pd
  else if (r.ros was).2 ≠ 0 then (r.ros was).2
  else if pls r.l ≠ (r.ros was).1.all 32 then 13
  else wchk r.l
theorem ros_lt {r : Rec} {w : Ros} (hs : w.s < 2 ^ 32) : (r.ros w).1.s < 2 ^ 32 := by
  unfold Rec.ros
  split
  · exact hs
  · have key : ∀ (l : List Chg) (x : Ros), x.s < 2 ^ 32 → (w.goW x l).1.s < 2 ^ 32 := fun l => by
      induction l with
      | nil => intro x h; exact h
      | cons c l ih =>
        intro x h
        unfold Ros.goW
        split
        · exact hs
        · rename_i hc
          exact ih _ (app_lt h (by simpa using hc))
    exact key r.c w hs

end Go.Proofs.Ytkggjmoghpmelaa.TL
