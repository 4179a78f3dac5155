/- Plain laws of a Gather beside the reference's list. -/
import Derived.Test.YtijgbinkdjekoaaUGatP
import Derived.Test.YtijgbinkdjekoaaUGatC
namespace Go.Proofs.Ytijgbinkdjekoaa.TL
open Go
set_option linter.unusedVariables false
set_option linter.unusedSimpArgs false

structure XI (x : List Pcs) : Prop where
  ok : ∀ p ∈ x, p.wf
  like : ∀ q l, x = q :: l → ∀ p ∈ x, likeP q p = true
  nd : (x.map (·.n)).Nodup
def gOf : List Pcs → Gth
  | [] => ⟨0, 0, 0, false, []⟩
  | q :: l => ⟨q.t, q.b, q.h, true, nsOf (q :: l)⟩
theorem likeP_iff {a b : Pcs} : likeP a b = true ↔ a.t = b.t ∧ a.b = b.b ∧ a.h = b.h := by simp [likeP]
theorem XI.nil : XI [] := ⟨fun p hp => (by cases hp), fun q l h => (by cases h), List.nodup_nil⟩
theorem like_gOf (q : Pcs) (l : List Pcs) (p : Pcs) : (gOf (q :: l)).like p = likeP q p := by
  refine Bool.eq_iff_iff.2 ?_
  simp only [gOf, Gth.like, likeP, Bool.and_eq_true, decide_eq_true_eq]
  constructor
  · rintro ⟨a, b, c⟩; exact ⟨(of_decide_eq_true a).symm, (of_decide_eq_true b).symm, (of_decide_eq_true c).symm⟩
  · rintro ⟨a, b, c⟩; exact ⟨decide_eq_true a.symm, decide_eq_true b.symm, decide_eq_true c.symm⟩
theorem put_gOf (x : List Pcs) (p : Pcs) : (gOf x).put p = (gOf (putL x p).1, (putL x p).2) := by
  by_cases hc : p.chk = 0
  · cases x with
    | nil => simp [gOf, Gth.put, putL, hc, nsOf]
    | cons q l =>
      have hlk := like_gOf q l p
      have hg : (gOf (q :: l)).g = true := rfl
      have ht : (gOf (q :: l)).t = q.t := rfl
      have hm : (gOf (q :: l)).m = nsOf (q :: l) := rfl
      cases hl : likeP q p
      · rw [hl] at hlk
        by_cases hle : p.t ≤ q.t
        · simp [Gth.put, putL, hc, hlk, hl, hg, ht, hle]
        · simp [Gth.put, putL, hc, hlk, hl, hg, ht, hle]
          simp [gOf, nsOf]
      · rw [hl] at hlk
        cases hk : lkp p.n (nsOf (q :: l)) with
        | none =>
          have hi : ins p.n p.s (nsOf (q :: l)) = nsOf (q :: l) ++ [(p.n, p.s)] := ins_new hk
          simp [Gth.put, putL, hc, hlk, hl, hg, hm, hk, hi]
          simp [gOf, nsOf]
        | some s => simp [Gth.put, putL, hc, hlk, hl, hg, hm, hk]
  · simp [Gth.put, putL, hc]
theorem lkp_n {x : List Pcs} {n : Int} : lkp n (nsOf x) = none ↔ n ∉ x.map (·.n) := by
  rw [lkp_none]
  constructor
  · intro h hm
    obtain ⟨p, hp, hpn⟩ := List.mem_map.1 hm
    exact h (p.n, p.s) (List.mem_map.2 ⟨p, hp, rfl⟩) hpn
  · intro h q hq hqn
    obtain ⟨p, hp, rfl⟩ := List.mem_map.1 hq
    exact h (List.mem_map.2 ⟨p, hp, hqn⟩)
theorem XI.one {p : Pcs} (h : p.wf) : XI [p] := ⟨fun q hq => by simp at hq; subst hq; exact h, fun q l e r hr => by cases e; simp at hr; subst hr; simp [likeP], by simp⟩
theorem XI.put {x : List Pcs} {p : Pcs} (h : XI x) (hh : p.h < 2 ^ 64) : XI (putL x p).1 := by
  by_cases hc : p.chk = 0
  · have hw : p.wf := ⟨hc, hh⟩
    cases x with
    | nil => simp only [putL, hc, ne_eq, not_true_eq_false, if_false]; exact XI.one hw
    | cons q l =>
      cases hl : likeP q p
      · by_cases hle : p.t ≤ q.t
        · simpa [putL, hc, hl, hle] using h
        · simpa [putL, hc, hl, hle] using XI.one hw
      · cases hk : lkp p.n (nsOf (q :: l)) with
        | some s => simpa [putL, hc, hl, hk] using h
        | none =>
          have hn := lkp_n.1 hk
          have : (putL (q :: l) p).1 = (q :: l) ++ [p] := by simp [putL, hc, hl, hk]
          rw [this]
          refine ⟨fun r hr => ?_, fun q' l' e r hr => ?_, ?_⟩
          · rcases List.mem_append.1 hr with hr | hr
            · exact h.ok r hr
            · simp at hr; subst hr; exact hw
          · cases e
            rcases List.mem_append.1 hr with hr | hr
            · exact h.like q l rfl r hr
            · simp at hr; subst hr; exact hl
          · rw [List.map_append]
            refine List.nodup_append.2 ⟨h.nd, by simp, fun a ha b hb => ?_⟩
            simp at hb
            subst hb
            intro e
            exact hn (e ▸ ha)
  · simpa [putL, hc] using h
theorem wf_n {p : Pcs} (h : p.wf) : 0 ≤ p.n ∧ p.n < pcN p.b := by
  have hr := h.rng
  have hc := h.c
  unfold Pcs.chk at hc
  split at hc
  · cases hc
  split at hc
  · cases hc
  split at hc
  · cases hc
  · omega
theorem XI.len {q : Pcs} {l : List Pcs} (h : XI (q :: l)) : ((q :: l).length : Int) ≤ pcN q.b := by
  have hlt : ∀ p ∈ q :: l, 0 ≤ p.n ∧ p.n < pcN q.b := fun p hp => by
    have := wf_n (h.ok p hp)
    rw [(likeP_iff.1 (h.like q l rfl p hp)).2.1]
    exact this
  have h1 := len_le (pcN q.b).toNat ((q :: l).map fun p => p.n.toNat) (by
    have hnd := h.nd
    rw [List.Nodup, List.pairwise_map] at hnd ⊢
    refine hnd.imp_of_mem ?_
    intro a b ha hb hab hh
    have := hlt a ha
    have := hlt b hb
    omega) (fun y hy => by
    obtain ⟨p, hp, rfl⟩ := List.mem_map.1 hy
    have := hlt p hp
    omega)
  simp only [List.length_map] at h1
  have := hlt q List.mem_cons_self
  omega
theorem whole_gOf {x : List Pcs} (h : XI x) : (gOf x).whole = ((wholeL x).1, (if (wholeL x).2 = 0 then (gOf x).t else 0), (wholeL x).2) := by
  cases x with
  | nil => simp [gOf, Gth.whole, wholeL]
  | cons q l =>
    have hl := h.len
    have hq := wf_n (h.ok q List.mem_cons_self)
    have hml : (nsOf (q :: l)).length = (q :: l).length := by simp [nsOf]
    have hGw : (gOf (q :: l)).whole = if ((q :: l).length : Int) < pcN q.b ∨ pcN q.b = 0 then ([], 0, 15) else if sumOf (catL (nsOf (q :: l)) (pcN q.b).toNat) ≠ q.h then ([], 0, 5) else (catL (nsOf (q :: l)) (pcN q.b).toNat, q.t, 0) := by
      unfold Gth.whole
      simp only [gOf, hml, Bool.true_eq_false, false_or]
      exact ite_congr rfl (fun _ => rfl) (fun _ => rfl)
    by_cases h1 : ((q :: l).length : Int) < pcN q.b
    · have hw : wholeL (q :: l) = ([], 15) := by simp only [wholeL]; rw [if_pos h1]
      rw [hGw, hw, if_pos (.inl h1)]
      simp
    · have h2 : (pcN q.b).toNat = (q :: l).length := by omega
      rw [hGw, if_neg (by omega), h2]
      by_cases h3 : sumOf (catL (nsOf (q :: l)) (q :: l).length) = q.h
      · have hw : wholeL (q :: l) = (catL (nsOf (q :: l)) (q :: l).length, 0) := by simp only [wholeL]; rw [if_neg h1, if_neg (by simpa using h3)]
        rw [hw, if_neg (by simpa using h3)]
        rfl
      · have hw : wholeL (q :: l) = ([], 5) := by simp only [wholeL]; rw [if_neg h1, if_pos h3]
        rw [hw, if_pos h3]
        rfl
theorem wholeL_code {x : List Pcs} : (wholeL x).2 = 0 ∨ (wholeL x).2 = 5 ∨ (wholeL x).2 = 15 := by
  unfold wholeL
  split
  · exact .inr (.inr rfl)
  · split
    · exact .inr (.inr rfl)
    · split
      · exact .inr (.inl rfl)
      · exact .inl rfl
theorem XI.rng {x : List Pcs} (h : XI x) : (gOf x).b ≤ 65536 ∧ (gOf x).h < 2 ^ 64 ∧ x.length ≤ 656 ∧ (∀ p ∈ (gOf x).m, p.2.length ≤ 100) ∧ ∀ p ∈ x, p.s.length ≤ 100 ∧ p.b ≤ 65536 := by
  have hp : ∀ p ∈ x, p.s.length ≤ 100 ∧ p.b ≤ 65536 := fun p hp => by have := (h.ok p hp).rng; omega
  cases x with
  | nil => exact ⟨by simp [gOf], by simp [gOf], by simp, by simp [gOf], hp⟩
  | cons q l =>
    have hq := h.ok q List.mem_cons_self
    have hl := h.len
    have := hp q List.mem_cons_self
    have hn := pcN_rng (b := q.b) (by omega)
    exact ⟨by simp only [gOf]; omega, hq.h, by omega, nsOf_len fun p hp' => (hp p hp').1, hp⟩
theorem missL_pre (m : List (Int × List UInt8)) (most : Int) (k : Nat) : ∀ j, ∃ r, missL m most (k + j) = missL m most k ++ r
  | 0 => ⟨[], by simp⟩
  | j + 1 => by
    obtain ⟨r, hr⟩ := missL_pre m most k j
    rw [← Nat.add_assoc, missL]
    split
    · exact ⟨r ++ [((k + j : Nat) : Int)], by rw [hr, List.append_assoc]⟩
    · exact ⟨r, hr⟩
end Go.Proofs.Ytijgbinkdjekoaa.TL
