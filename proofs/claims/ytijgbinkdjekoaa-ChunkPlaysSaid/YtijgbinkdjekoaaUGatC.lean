/- Pieces of one snapshot in whatever order: the closure of ChunkWhole. -/
import Derived.Test.YtijgbinkdjekoaaUGatW
namespace Go.Proofs.Ytijgbinkdjekoaa.TL
open Go
set_option linter.unusedVariables false
set_option linter.unusedSimpArgs false

theorem len_le : ∀ (N : Nat) (l : List Nat), l.Nodup → (∀ x ∈ l, x < N) → l.length ≤ N
  | 0, l, _, h => by
    cases l with
    | nil => simp
    | cons a l => exact absurd (h a List.mem_cons_self) (by omega)
  | N + 1, l, hn, h => by
    have h1 := len_le N (l.erase N) (hn.erase N) fun x hx => by
      have hx' := (hn.mem_erase_iff).1 hx
      have := h x hx'.2
      have := hx'.1
      omega
    have h2 := List.length_erase (a := N) (l := l)
    split at h2 <;> omega
theorem all_in {N : Nat} {l : List Nat} (hn : l.Nodup) (h : ∀ x ∈ l, x < N) (hl : N ≤ l.length) : ∀ k, k < N → k ∈ l := fun k hk => by
  refine Classical.byContradiction fun hh => ?_
  have := len_le N (k :: l) (List.nodup_cons.2 ⟨hh, hn⟩) fun x hx => by
    rcases List.mem_cons.1 hx with rfl | hx
    · exact hk
    · exact h x hx
  simp at this
  omega
def gK (t : Int) (s : List UInt8) (ks : List Nat) : Gth := if ks = [] then ⟨0, 0, 0, false, []⟩ else ⟨t, s.length, sumOf s, true, nsOf (ks.map (pieceAt t s))⟩
def kPut (ks : List Nat) (k : Nat) : List Nat := if k ∈ ks then ks else ks ++ [k]
def mPut (M : List (Int × Int)) (k : Nat) : List (Int × Int) := ins (k : Int) ((lkp (k : Int) M).getD 0 + 1) M
structure KI (N n : Nat) (ks : List Nat) (M : List (Int × Int)) : Prop where
  nd : ks.Nodup
  lt : ∀ k ∈ ks, k < N
  keys : M.map (·.1) = ks.map fun k : Nat => (k : Int)
  pos : ∀ p ∈ M, 1 ≤ p.2 ∧ p.2 ≤ n
theorem KI.len {N n : Nat} {ks : List Nat} {M : List (Int × Int)} (h : KI N n ks M) : M.length = ks.length := by
  have := congrArg List.length h.keys
  simpa using this
theorem KI.no {N n : Nat} {ks : List Nat} {M : List (Int × Int)} (h : KI N n ks M) (k : Nat) : lkp (k : Int) M = none ↔ k ∉ ks := by
  rw [lkp_none]
  constructor
  · intro hh hk
    have : (k : Int) ∈ M.map (·.1) := by rw [h.keys]; exact List.mem_map.2 ⟨k, hk, rfl⟩
    obtain ⟨p, hp, hp2⟩ := List.mem_map.1 this
    exact hh p hp hp2
  · intro hh p hp hpk
    have : p.1 ∈ ks.map fun k : Nat => (k : Int) := by rw [← h.keys]; exact List.mem_map.2 ⟨p, hp, rfl⟩
    obtain ⟨j, hj, hj2⟩ := List.mem_map.1 this
    have : j = k := by omega
    exact hh (this ▸ hj)
theorem ins_keys {α : Type} (a : Int) (v : α) : ∀ M : List (Int × α), (lkp a M).isSome = true → (ins a v M).map (·.1) = M.map (·.1)
  | [], h => by cases h
  | p :: l, h => by
    by_cases hp : p.1 = a
    · simp [ins, hp]
    · simp only [lkp, if_neg hp] at h
      simp [ins, hp, ins_keys a v l h]
theorem ins_mem {α : Type} {a : Int} {v : α} : ∀ {M : List (Int × α)} {p : Int × α}, p ∈ ins a v M → p = (a, v) ∨ p ∈ M
  | [], p, h => by simp [ins] at h; exact .inl h
  | q :: l, p, h => by
    simp only [ins] at h
    split at h
    · rcases List.mem_cons.1 h with h | h
      · exact .inl h
      · exact .inr (List.mem_cons_of_mem _ h)
    · rcases List.mem_cons.1 h with h | h
      · exact .inr (h ▸ List.mem_cons_self)
      · rcases ins_mem h with h | h
        · exact .inl h
        · exact .inr (List.mem_cons_of_mem _ h)
theorem KI.cnt {N n : Nat} {ks : List Nat} {M : List (Int × Int)} (h : KI N n ks M) (k : Nat) : 0 ≤ (lkp (k : Int) M).getD 0 ∧ (lkp (k : Int) M).getD 0 ≤ n := by
  cases hk : lkp (k : Int) M with
  | none => simp
  | some c => have := h.pos _ (lkp_mem hk); simp at this ⊢; omega
theorem KI.put {N n : Nat} {ks : List Nat} {M : List (Int × Int)} (h : KI N n ks M) {k : Nat} (hk : k < N) : KI N (n + 1) (kPut ks k) (mPut M k) := by
  have hpos : ∀ p ∈ mPut M k, 1 ≤ p.2 ∧ p.2 ≤ ((n + 1 : Nat) : Int) := fun p hp => by
    have hc := h.cnt k
    rcases ins_mem hp with rfl | hp
    · simp only; omega
    · have := h.pos p hp; omega
  by_cases hin : k ∈ ks
  · have hs : (lkp (k : Int) M).isSome = true := by
      cases hh : lkp (k : Int) M with
      | none => exact absurd hin ((h.no k).1 hh)
      | some c => rfl
    simp only [kPut, if_pos hin]
    exact ⟨h.nd, h.lt, by rw [mPut, ins_keys _ _ _ hs]; exact h.keys, hpos⟩
  · have hn := (h.no k).2 hin
    simp only [kPut, if_neg hin]
    refine ⟨List.nodup_append.2 ⟨h.nd, by simp, fun a ha b hb => ?_⟩, fun j hj => ?_, ?_, hpos⟩
    · simp at hb; subst hb; intro hab; exact hin (hab ▸ ha)
    · rcases List.mem_append.1 hj with hj | hj
      · exact h.lt j hj
      · simp at hj; omega
    · rw [mPut, ins_new hn]; simp [h.keys]
theorem lkp_gK {t : Int} {s : List UInt8} {ks : List Nat} (k : Nat) : lkp (k : Int) (nsOf (ks.map (pieceAt t s))) = if k ∈ ks then some (pieceAt t s k).s else none := by
  induction ks with
  | nil => rfl
  | cons a l ih =>
    simp only [List.map_cons, nsOf, lkp] at ih ⊢
    have ha : (pieceAt t s a).n = (a : Int) := rfl
    rw [ha, ih]
    by_cases h : a = k
    · subst h; simp
    · have h2 : ¬ (a : Int) = k := by omega
      have h3 : ¬ k = a := fun hh => h hh.symm
      simp [h2, h3]
theorem gK_put {t : Int} {s : List UInt8} {ks : List Nat} {k : Nat} (ht : 0 ≤ t ∧ t ≤ 1099511627776) (hl : s.length ≤ 65536) (hk : k < (s.length + 99) / 100) : (gK t s ks).put (pieceAt t s k) = (gK t s (kPut ks k), if k ∈ ks then 10 else 0) := by
  have hc : (pieceAt t s k).chk = 0 := (pieceAt_wf ht hl hk).c
  by_cases h0 : ks = []
  · subst h0
    simp [gK, Gth.put, hc, kPut, nsOf]
    simp [pieceAt]
  · have hG : gK t s ks = ⟨t, s.length, sumOf s, true, nsOf (ks.map (pieceAt t s))⟩ := by unfold gK; rw [if_neg h0]
    have hlk : (gK t s ks).like (pieceAt t s k) = true := by rw [hG]; simp [Gth.like, pieceAt]
    have hm := lkp_gK (t := t) (s := s) (ks := ks) k
    have hn : (pieceAt t s k).n = (k : Int) := rfl
    by_cases hin : k ∈ ks
    · rw [if_pos hin] at hm
      simp only [kPut, if_pos hin]
      rw [hG] at hlk ⊢
      simp [Gth.put, hc, hlk, hn, hm]
    · rw [if_neg hin] at hm
      have hne : ¬ ks ++ [k] = [] := by simp
      simp only [kPut, if_neg hin]
      have hG2 : gK t s (ks ++ [k]) = ⟨t, s.length, sumOf s, true, nsOf ((ks ++ [k]).map (pieceAt t s))⟩ := by unfold gK; rw [if_neg hne]
      rw [hG2]
      rw [hG] at hlk ⊢
      simp [Gth.put, hc, hlk, hn, hm, ins_new hm]
      simp [nsOf, hn]
theorem catL_all {m m' : List (Int × List UInt8)} : ∀ n, (∀ k : Nat, k < n → lkp (k : Int) m = lkp (k : Int) m') → catL m n = catL m' n
  | 0, _ => rfl
  | n + 1, h => by
    rw [catL, catL, catL_all n (fun k hk => h k (by omega)), h n (by omega)]
theorem gK_whole {t : Int} {s : List UInt8} {ks : List Nat} (h : 1 ≤ s.length) (hn : ks.Nodup) (hlt : ∀ k ∈ ks, k < (s.length + 99) / 100) (h0 : ks ≠ []) : (gK t s ks).whole = if ks.length = (s.length + 99) / 100 then (s, t, 0) else ([], 0, 15) := by
  have hG : gK t s ks = ⟨t, s.length, sumOf s, true, nsOf (ks.map (pieceAt t s))⟩ := by unfold gK; rw [if_neg h0]
  have hle := len_le _ ks hn hlt
  rw [hG]
  have hml : (nsOf (ks.map (pieceAt t s))).length = ks.length := by simp [nsOf]
  unfold Gth.whole
  simp only [pcN_len, hml, Int.toNat_natCast, Bool.true_eq_false, false_or]
  by_cases hf : ks.length = (s.length + 99) / 100
  · have hall := all_in hn hlt (by omega)
    have hcat : catL (nsOf (ks.map (pieceAt t s))) ((s.length + 99) / 100) = s := by
      rw [catL_all (m' := nsOf (pieces t s ((s.length + 99) / 100))) _ (fun k hk => by rw [lkp_gK, if_pos (hall k hk), lkp_pieces, if_pos hk])]
      rw [catL_pieces t s _ _ (Nat.le_refl _) (by omega), List.take_of_length_le (by omega)]
    rw [if_neg (by omega), hcat, if_neg (by simp), if_pos hf]
  · rw [if_pos (by omega), if_neg hf]
end Go.Proofs.Ytijgbinkdjekoaa.TL
