/- .. a call of Int in such a chain. -/
import Derived.Test.YtfhckddfmlljfaaEmit
import Derived.Test.YtfhckddfmlljfaaOutInt
namespace Go.Proofs.Ytfhckddfmlljfaa
open Go.RowKit
variable {w W : World} {g : Nat} {rb : Option Nat} {l : List UInt8} {ps : List (Item × Nat)}
theorem St.int (h : St w W g rb l ps) (ns : List Int) (n : Nat) (hn : ns.length = n) (b : Nat) (hm : (Item.int ns, b) ∈ ps) (hok : ∀ x ∈ ns, -9223372036854775808 ≤ x ∧ x ≤ 9223372036854775807) (hb : l.length + 10 * ns.length ≤ 549755813888) :
    Calls Try.prog 69 #[.pointer (some ⟨g, 0, none⟩), .slice (some ⟨b, 0, none⟩) n n] W fun x w' => x = .returned (.pointer (some ⟨g, 0, none⟩)) ∧ St w w' g rb (l ++ ibs ns) ps := by
  subst hn
  obtain ⟨rb1, h1, h2, h3, h4⟩ := id h
  obtain ⟨q1, q2, q3, q4⟩ := h4 _ hm
  refine (int_out g rb1 l _ ns.length ns W h1 q1 (by rintro a e; cases e; exact ⟨q2, q3⟩) (Nat.le_refl _) hok hb).mono ?_
  rintro x w' ⟨rfl, ho⟩
  exact ⟨rfl, h.after h1 h2 h3 h4 ho⟩
end Go.Proofs.Ytfhckddfmlljfaa
