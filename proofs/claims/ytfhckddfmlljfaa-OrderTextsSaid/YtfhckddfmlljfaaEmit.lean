/- A chain of calls on an Out whose rows of arguments are made in whatever order: what is there between two operations. -/
import Derived.Test.YtfhckddfmlljfaaOut
namespace Go.Proofs.Ytfhckddfmlljfaa
open Go.RowKit
set_option linter.unusedVariables false
set_option linter.unusedSimpArgs false

/-- A row of arguments that was made for a call of Num, Count, Int or Str. -/
inductive Item where
  | nat (ns : List Int)
  | cnt (ns : List Int)
  | int (ns : List Int)
  | str (ss : List ByteArray)
def Item.kept (W : World) (b : Nat) : Item → Prop
  | .nat ns => Ints W .u64 (some ⟨b, 0, none⟩) ns
  | .cnt ns => Ints W .i64 (some ⟨b, 0, none⟩) ns
  | .int ns => Ints W .i64 (some ⟨b, 0, none⟩) ns
  | .str ss => Strs W (some ⟨b, 0, none⟩) ss
def Item.cells : Item → List Value
  | .nat ns => ns.map (.int .u64)
  | .cnt ns => ns.map (.int .i64)
  | .int ns => ns.map (.int .i64)
  | .str ss => ss.map .string
theorem Item.kept.kp {W W' : World} {b : Nat} {it : Item} {S : Nat → Prop} (h : it.kept W b) (k : Kp S W W') (hS : ¬ S b) : it.kept W' b := by
  have hS' : ∀ a : Addr, some (⟨b, 0, none⟩ : Addr) = some a → ¬ S a.block := by rintro a e; cases e; exact hS
  cases it with
  | nat ns => exact Ints.kp h k hS'
  | cnt ns => exact Ints.kp h k hS'
  | int ns => exact Ints.kp h k hS'
  | str ss => exact Strs.kp h k hS'
theorem Item.made (W : World) (it : Item) (t : TypeId) : it.kept (W.alloc (.cells it.cells.toArray t)) W.heap.size := by
  cases it with
  | nat ns => exact Ints.lit W .u64 ns t
  | cnt ns => exact Ints.lit W .i64 ns t
  | int ns => exact Ints.lit W .i64 ns t
  | str ss => exact Strs.lit W ss t
/-- From w to W the Out at g came to hold l; the rows ps lie ready. -/
def St (w W : World) (g : Nat) (rb : Option Nat) (l : List UInt8) (ps : List (Item × Nat)) : Prop :=
  ∃ rb1, OutAt W g rb1 l ∧ (rb1 = rb ∨ ∃ k, rb1 = some k ∧ w.heap.size ≤ k) ∧ Kp (fun k => k = g ∨ some k = rb) w W ∧ ∀ p ∈ ps, p.1.kept W p.2 ∧ p.2 ≠ g ∧ some p.2 ≠ rb1 ∧ p.2 < W.heap.size
variable {w W : World} {g : Nat} {rb : Option Nat} {l : List UInt8} {ps : List (Item × Nat)}
theorem St.start (h : OutAt w g rb l) : St w w g rb l [] := ⟨rb, h, .inl rfl, Kp.refl _ _, fun _ hp => by cases hp⟩
theorem St.to (h : St w W g rb l ps) : OutTo w W g rb l := by
  obtain ⟨rb1, h1, h2, h3, _⟩ := h
  exact ⟨rb1, h1, h2, h3⟩
theorem St.sub (h : St w W g rb l ps) {qs : List (Item × Nat)} (hs : ∀ p ∈ qs, p ∈ ps) : St w W g rb l qs := by
  obtain ⟨rb1, h1, h2, h3, h4⟩ := h
  exact ⟨rb1, h1, h2, h3, fun p hp => h4 p (hs p hp)⟩
theorem St.drewN (h : St w W g rb l ps) (n : Nat) : St w (W.drewN n) g rb l ps := by
  obtain ⟨rb1, h1, h2, h3, h4⟩ := h
  exact ⟨rb1, h1, h2, h3.drewN n, fun p hp => ⟨(h4 p hp).1.kp ((Kp.refl (fun _ => False) W).drewN n) (fun x => x), (h4 p hp).2⟩⟩
theorem St.drew (h : St w W g rb l ps) : St w W.drew g rb l ps := by
  obtain ⟨rb1, h1, h2, h3, h4⟩ := h
  exact ⟨rb1, h1, h2, h3.drew, fun p hp => ⟨(h4 p hp).1.kp ((Kp.refl (fun _ => False) W).drew) (fun x => x), (h4 p hp).2⟩⟩
theorem St.cell (h : St w W g rb l ps) {p : Addr} {v : Value} (hc : w.cell? p = some v) (hp : ¬ (p.block = g ∨ some p.block = rb)) : W.cell? p = some v := by
  obtain ⟨_, _, _, h3, _⟩ := h
  exact h3.cell hc hp
theorem St.build (h : St w W g rb l ps) (it : Item) (t : TypeId) : St w (W.alloc (.cells it.cells.toArray t)) g rb l ((it, W.heap.size) :: ps) := by
  obtain ⟨rb1, h1, h2, h3, h4⟩ := h
  have hl := h1.lt
  have ka := (Kp.refl (fun _ => False) W).alloc (.cells it.cells.toArray t)
  refine ⟨rb1, h1.alloc _, h2, h3.alloc _, fun p hp => ?_⟩
  rcases List.mem_cons.1 hp with rfl | hp
  · exact ⟨Item.made W it t, Nat.ne_of_gt hl.1, fun e => Nat.lt_irrefl _ (hl.2 _ e.symm), by simp⟩
  · obtain ⟨a, b, c, d⟩ := h4 p hp
    exact ⟨a.kp ka (fun x => x), b, c, by simp; omega⟩
theorem St.after (h : St w W g rb l ps) {rb1 : Option Nat} (h1 : OutAt W g rb1 l) (h2 : rb1 = rb ∨ ∃ k, rb1 = some k ∧ w.heap.size ≤ k) (h3 : Kp (fun k => k = g ∨ some k = rb) w W)
    (h4 : ∀ p ∈ ps, p.1.kept W p.2 ∧ p.2 ≠ g ∧ some p.2 ≠ rb1 ∧ p.2 < W.heap.size) {w' : World} {l' : List UInt8} (ho : OutTo W w' g rb1 l') : St w w' g rb l' ps := by
  obtain ⟨rb2, a1, a2, a3⟩ := ho
  have hot : OutTo w w' g rb l' := OutTo.then h2 h3 ⟨rb2, a1, a2, a3⟩
  refine ⟨rb2, a1, ?_, ?_, fun p hp => ?_⟩
  · rcases a2 with rfl | ⟨k, rfl, hk⟩
    · exact h2
    · exact .inr ⟨k, rfl, Nat.le_trans h3.size hk⟩
  · exact h3.then a3 (fun _ _ x => x) (fun i hi x => by
      rcases x with x | x
      · exact .inl x
      · rcases h2 with e | ⟨k, e, hk⟩
        · exact .inr (x.trans e)
        · rw [e] at x; cases x; omega)
  · obtain ⟨q1, q2, q3, q4⟩ := h4 p hp
    have hS : ¬ (p.2 = g ∨ some p.2 = rb1) := fun x => x.elim q2 q3
    refine ⟨q1.kp a3 hS, q2, ?_, Nat.lt_of_lt_of_le q4 a3.size⟩
    rcases a2 with rfl | ⟨k, rfl, hk⟩
    · exact q3
    · intro e; cases e; omega
theorem St.count (h : St w W g rb l ps) (ns : List Int) (n : Nat) (hn : ns.length = n) (b : Nat) (hm : (Item.cnt ns, b) ∈ ps) (hok : ∀ x ∈ ns, x ≤ 9223372036854775807) (hb : l.length + 10 * ns.length ≤ 549755813888) :
    Calls Try.prog 68 #[.pointer (some ⟨g, 0, none⟩), .slice (some ⟨b, 0, none⟩) n n] W fun x w' => x = .returned (.pointer (some ⟨g, 0, none⟩)) ∧ St w w' g rb (l ++ cbs ns) ps := by
  subst hn
  obtain ⟨rb1, h1, h2, h3, h4⟩ := id h
  obtain ⟨q1, q2, q3, q4⟩ := h4 _ hm
  refine (count_out g rb1 l _ ns.length ns W h1 q1 (by rintro a e; cases e; exact ⟨q2, q3⟩) (Nat.le_refl _) hok hb).mono ?_
  rintro x w' ⟨rfl, ho⟩
  exact ⟨rfl, h.after h1 h2 h3 h4 ho⟩
theorem St.num (h : St w W g rb l ps) (ns : List Int) (n : Nat) (hn : ns.length = n) (b : Nat) (hm : (Item.nat ns, b) ∈ ps) (hok : ∀ x ∈ ns, 0 ≤ x ∧ x < 18446744073709551616) (hb : l.length + 10 * ns.length ≤ 549755813888) :
    Calls Try.prog 67 #[.pointer (some ⟨g, 0, none⟩), .slice (some ⟨b, 0, none⟩) n n] W fun x w' => x = .returned (.pointer (some ⟨g, 0, none⟩)) ∧ St w w' g rb (l ++ nbs ns) ps := by
  subst hn
  obtain ⟨rb1, h1, h2, h3, h4⟩ := id h
  obtain ⟨q1, q2, q3, q4⟩ := h4 _ hm
  refine (num_out g rb1 l _ ns.length ns W h1 q1 (by rintro a e; cases e; exact ⟨q2, q3⟩) (Nat.le_refl _) hok (by omega)).mono ?_
  rintro x w' ⟨rfl, ho⟩
  exact ⟨rfl, h.after h1 h2 h3 h4 ho⟩
end Go.Proofs.Ytfhckddfmlljfaa
