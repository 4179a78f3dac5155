/- Plain laws of a Gather: pieces of one snapshot, one behind the other. -/
import Derived.Test.YtijgbinkdjekoaaUGatR
namespace Go.Proofs.Ytijgbinkdjekoaa.TL
open Go
set_option linter.unusedVariables false
set_option linter.unusedSimpArgs false

def gP (t : Int) (s : List UInt8) (k : Nat) : Gth := ⟨t, s.length, sumOf s, true, nsOf (pieces t s k)⟩
def gS (G : Gth) (t : Int) (s : List UInt8) (k : Nat) : Gth := if k = 0 then G else gP t s k
theorem lkp_pieces (t : Int) (s : List UInt8) (j : Nat) : ∀ k, lkp (j : Int) (nsOf (pieces t s k)) = if j < k then some (pieceAt t s j).s else none
  | 0 => by simp [pieces, nsOf, lkp]
  | k + 1 => by
    have ih := lkp_pieces t s j k
    have happ : ∀ (l l' : List (Int × List UInt8)), lkp (j : Int) (l ++ l') = (lkp (j : Int) l).or (lkp (j : Int) l') := fun l l' => by
      induction l with
      | nil => simp [lkp]
      | cons p l ih => simp only [List.cons_append, lkp]; split <;> simp [ih]
    rw [pieces_succ]
    simp only [nsOf, List.map_append, List.map_cons, List.map_nil] at ih ⊢
    rw [happ, ih]
    by_cases h1 : j < k
    · simp [h1, show j < k + 1 by omega]
    · by_cases h2 : j = k
      · subst h2
        simp [lkp, pieceAt]
      · have h3 : ¬ (k : Int) = j := by omega
        simp [lkp, pieceAt, h1, h3, show ¬ j < k + 1 by omega]
theorem pieces_first (t : Int) (s : List UInt8) : nsOf (pieces t s 1) = [(((pieceAt t s 0).n : Int), (pieceAt t s 0).s)] := rfl
theorem put_gS {G : Gth} {t : Int} {s : List UInt8} {k : Nat} (hG : G.g = false ∨ G.t < t) (ht : 0 ≤ t ∧ t ≤ 1099511627776) (hl : s.length ≤ 65536) (hk : k < (s.length + 99) / 100) : (gS G t s k).put (pieceAt t s k) = (gS G t s (k + 1), 0) := by
  have hw := pieceAt_wf ht hl hk
  have hc : (pieceAt t s k).chk = 0 := hw.c
  unfold gS
  rw [if_neg (show ¬ k + 1 = 0 by omega)]
  by_cases h0 : k = 0
  · subst h0
    rw [if_pos rfl]
    rcases hG with hG | hG
    · simp only [Gth.put, hc, hG, ne_eq, not_true_eq_false, if_false, Bool.false_eq_true, false_and, if_true]
      simp only [gP, Nat.zero_add, pieces_first]
      rfl
    · have hlk : G.like (pieceAt t s 0) = false := by
        have : ¬ t = G.t := by omega
        simp [Gth.like, pieceAt, this]
      have hle : ¬ (pieceAt t s 0).t ≤ G.t := by simp only [pieceAt]; omega
      simp only [Gth.put, hc, hlk, ne_eq, not_true_eq_false, if_false, and_true, if_neg hle]
      have e : ∀ b : Bool, (if b = true then ((⟨(pieceAt t s 0).t, (pieceAt t s 0).b, (pieceAt t s 0).h, true, [((pieceAt t s 0).n, (pieceAt t s 0).s)]⟩, 0) : Gth × Int) else if b = false then (⟨(pieceAt t s 0).t, (pieceAt t s 0).b, (pieceAt t s 0).h, true, [((pieceAt t s 0).n, (pieceAt t s 0).s)]⟩, 0) else if (lkp (pieceAt t s 0).n G.m).isSome = true then (G, 10) else (⟨G.t, G.b, G.h, b, ins (pieceAt t s 0).n (pieceAt t s 0).s G.m⟩, 0)) = (gP t s (0 + 1), 0) := fun b => by
        cases b <;> simp [gP, pieces_first] <;> simp [pieceAt]
      exact e G.g
  · rw [if_neg h0]
    have hlk : (gP t s k).like (pieceAt t s k) = true := by simp [Gth.like, gP, pieceAt]
    have hno : lkp ((pieceAt t s k).n : Int) (gP t s k).m = none := by
      show lkp (k : Int) (nsOf (pieces t s k)) = none
      rw [lkp_pieces, if_neg (by omega)]
    have hg : (gP t s k).g = true := rfl
    simp only [Gth.put, hc, hlk, hno, hg, ne_eq, not_true_eq_false, if_false, and_false, Bool.true_eq_false, Option.isSome_none, Bool.false_eq_true, reduceIte]
    rw [ins_new hno]
    simp only [gP, pieces_succ, nsOf, List.map_append, List.map_cons, List.map_nil]
theorem put_gP_old {t u : Int} {a b : List UInt8} {k j : Nat} (ht : 0 ≤ t ∧ t ≤ 1099511627776) (hl : a.length ≤ 65536) (hj : j < (a.length + 99) / 100) (hu : t < u) : (gP u b k).put (pieceAt t a j) = (gP u b k, 11) := by
  have hc : (pieceAt t a j).chk = 0 := (pieceAt_wf ht hl hj).c
  have hlk : (gP u b k).like (pieceAt t a j) = false := by
    have : ¬ t = u := by omega
    simp [Gth.like, gP, pieceAt, this]
  have hle : (pieceAt t a j).t ≤ (gP u b k).t := by simp only [gP, pieceAt]; omega
  have hg : (gP u b k).g = true := rfl
  simp [Gth.put, hc, hlk, hle, hg]
theorem put_gP_there {t : Int} {a : List UInt8} {k j : Nat} (ht : 0 ≤ t ∧ t ≤ 1099511627776) (hl : a.length ≤ 65536) (hj : j < (a.length + 99) / 100) (hk : j < k) : (gP t a k).put (pieceAt t a j) = (gP t a k, 10) := by
  have hc : (pieceAt t a j).chk = 0 := (pieceAt_wf ht hl hj).c
  have hlk : (gP t a k).like (pieceAt t a j) = true := by simp [Gth.like, gP, pieceAt]
  have hg : (gP t a k).g = true := rfl
  have hs : (lkp (pieceAt t a j).n (gP t a k).m).isSome = true := by
    show (lkp (j : Int) (nsOf (pieces t a k))).isSome = true
    rw [lkp_pieces, if_pos hk]; rfl
  simp [Gth.put, hc, hlk, hg, hs]
theorem catL_pieces (t : Int) (s : List UInt8) (N : Nat) : ∀ k, k ≤ N → k * 100 ≤ s.length + 99 → catL (nsOf (pieces t s N)) k = s.take (k * 100)
  | 0, _, _ => by simp [catL]
  | k + 1, h1, h2 => by
    rw [catL, catL_pieces t s N k (by omega) (by omega), lkp_pieces, if_pos (by omega)]
    simp only [Option.getD_some, pieceAt]
    have e : s.take ((k + 1) * 100) = s.take (k * 100) ++ (s.drop (k * 100)).take ((k + 1) * 100 - k * 100) := by
      rw [← List.take_add]; congr 1; omega
    rw [e]
    congr 1
    by_cases hm : (k + 1) * 100 ≤ s.length
    · rw [Nat.min_eq_left hm]
    · rw [Nat.min_eq_right (by omega), List.take_of_length_le (by simp), List.take_of_length_le (by simp; omega)]
theorem pcN_len (s : List UInt8) : pcN (s.length : Int) = ((s.length + 99) / 100 : Nat) := by unfold pcN; omega
theorem whole_gP {t : Int} {s : List UInt8} (h : 1 ≤ s.length) : (gP t s ((s.length + 99) / 100)).whole = (s, t, 0) := by
  have e1 : pcN ((gP t s ((s.length + 99) / 100)).b) = (((s.length + 99) / 100 : Nat) : Int) := pcN_len s
  have e2 : (gP t s ((s.length + 99) / 100)).m.length = (s.length + 99) / 100 := by simp [gP, nsOf]
  have e3 : catL (gP t s ((s.length + 99) / 100)).m ((s.length + 99) / 100) = s := by
    show catL (nsOf (pieces t s ((s.length + 99) / 100))) _ = s
    rw [catL_pieces t s _ _ (Nat.le_refl _) (by omega), List.take_of_length_le (by omega)]
  unfold Gth.whole
  rw [e1, e2, Int.toNat_natCast, e3]
  rw [if_neg (by simp only [gP, Bool.true_eq_false, false_or]; omega), if_neg (by simp [gP])]
  rfl
end Go.Proofs.Ytijgbinkdjekoaa.TL
