/- Own words, part 12: a contract used by a caller; states that say less; blocks that never change any more. No program is named here. -/
import Derived.Test.YtekmhdiajjfgfaaDoorTm
namespace Go.Proofs.YtekmhdiajjfgfaaDoor.TL
open Go
set_option linter.unusedVariables false
set_option linter.unusedSimpArgs false

def renB (τ : Nat → Option Nat) (B : Blk) : Blk := if B.k = 0 then ⟨0, renL τ B.cells⟩ else B
def okB (m : Nat → Prop) (B : Blk) : Prop := if B.k = 0 then okL m B.cells else CloL B.cells

def mapId : List (Nat × Nat) → Nat → Option Nat
  | [], _ => none
  | (i, j) :: l, n => if n = i then some j else mapId l n
/-- The caller's heap behind a call. -/
def applyH (τ : Nat → Option Nat) (h1 : Heap) : List (Nat × Nat) → Heap → Heap
  | [], h => h
  | (i, j) :: l, h => match getH h1 i with
    | some (ver, B) => setH (applyH τ h1 l h) j (ver, renB τ B)
    | none => delH (applyH τ h1 l h) j

/-- The callee's number of a caller's slot. -/
def backId : List (Nat × Nat) → Nat → Option Nat
  | [], _ => none
  | (i, j) :: l, n => if n = j then some i else backId l n

theorem getH_applyH (τ : Nat → Option Nat) (h1 h : Heap) : ∀ (l : List (Nat × Nat)) (n : Nat), getH (applyH τ h1 l h) n = match backId l n with | some i => (getH h1 i).map fun p => (p.1, renB τ p.2) | none => getH h n
  | [], n => rfl
  | (i, j) :: l, n => by
    simp only [applyH, backId]
    cases hi : getH h1 i with
    | none =>
      simp only [getH_delH]
      by_cases hn : n = j
      · simp [hn, hi]
      · simp only [if_neg hn]; exact getH_applyH τ h1 h l n
    | some p =>
      obtain ⟨ver, B⟩ := p
      simp only [getH_setH]
      by_cases hn : n = j
      · simp [hn, hi]
      · simp only [if_neg hn]; exact getH_applyH τ h1 h l n

/-- Each number once, on either side. -/
def okTau : List (Nat × Nat) → Bool
  | [] => true
  | (i, j) :: l => (mapId l i).isNone && (backId l j).isNone && okTau l

theorem back_of_map : ∀ {l : List (Nat × Nat)} {i j : Nat}, okTau l = true → mapId l i = some j → backId l j = some i
  | (a, b) :: l, i, j, hok, h => by
    simp only [okTau, Bool.and_eq_true] at hok
    simp only [mapId] at h
    simp only [backId]
    by_cases hi : i = a
    · rw [if_pos hi] at h; cases h; rw [if_pos rfl, hi]
    · rw [if_neg hi] at h
      have := back_of_map hok.2 h
      rw [if_neg (fun hj => by rw [hj] at this; simp [this] at hok)]
      exact this
theorem map_of_back : ∀ {l : List (Nat × Nat)} {i j : Nat}, okTau l = true → backId l j = some i → mapId l i = some j
  | (a, b) :: l, i, j, hok, h => by
    simp only [okTau, Bool.and_eq_true] at hok
    simp only [backId] at h
    simp only [mapId]
    by_cases hj : j = b
    · rw [if_pos hj] at h; cases h; rw [if_pos rfl, hj]
    · rw [if_neg hj] at h
      have := map_of_back hok.2 h
      rw [if_neg (fun hi => by rw [hi] at this; simp [this] at hok)]
      exact this

theorem getH_mem : ∀ {h : Heap} {n : Nat} {x : Nat × Blk}, getH h n = some x → (n, x) ∈ h
  | (k, y) :: l, n, x, h => by
    simp only [getH] at h
    by_cases hn : n = k
    · rw [if_pos hn] at h; cases h; subst hn; exact List.mem_cons_self
    · rw [if_neg hn] at h; exact List.mem_cons_of_mem _ (getH_mem h)

theorem renB_k (τ : Nat → Option Nat) (B : Blk) : (renB τ B).k = B.k := by unfold renB; split <;> simp_all

theorem RVl_ext {E : Env} {l : List TV} {f f' : Nat → Option Value} {o : Nat} (h : RVl E l f o) (hf : ∀ j v, f j = some v → f' j = some v) : RVl E l f' o := RVl.mono (Env.Le.refl E) _ _ _ _ hf h

/-- A CONTRACT USED: τ: the callee's numbers of the blocks, and the caller's. -/
theorem callT_use {P : Program} {f : Nat} {args0 args : List TV} {s : TS} {h0 : Heap} {Q0 K : TV → Heap → Prop} (τ : List (Nat × Nat)) (hc : callT P f args0 ⟨[], h0⟩ Q0) (hτ : okTau τ = true)
    (hargs : args = renL (mapId τ) args0) (hok : okL (fun b => (mapId τ b).isSome = true) args0)
    (hh : ∀ p ∈ h0, okB (fun b => (mapId τ b).isSome = true) p.2.2 ∧ ∃ j, mapId τ p.1 = some j ∧ getH s.h j = some (p.2.1, renB (mapId τ) p.2.2))
    (hK : ∀ r h1, Q0 r h1 → okT (fun _ => True) r ∧ (∀ p ∈ h1, (mapId τ p.1).isSome = true ∧ okB (fun _ => True) p.2.2) ∧ K (renT (mapId τ) r) (applyH (mapId τ) h1 τ s.h)) : callT P f args s K := by
  refine ⟨hc.1, fun e E w vs H hl hv => ?_⟩
  let E0 : Env := { I := E.I, ρ := fun i => if (getH h0 i).isSome then (mapId τ i).bind E.ρ else none, c := E.c }
  let e0 : Ent := { w0 := w, E0 := E0, O := fun r => ∃ i ver q, E0.ρ i = some (ver, some q) ∧ q.r = r, glo := H.glo }
  have hE0 : ∀ i y, E0.ρ i = some y → ∃ j, mapId τ i = some j ∧ E.ρ j = some y ∧ (getH h0 i).isSome = true := fun i y hy => by
    simp only [E0] at hy
    split at hy
    · rename_i hs
      obtain ⟨j, hj, hy⟩ := Option.bind_eq_some_iff.1 hy
      exact ⟨j, hj, hy, hs⟩
    · cases hy
  have unr : ∀ b j, mapId τ b = some j → ∀ ver R, E0.ρ b = some (ver, R) → E.ρ j = some (ver, R) := fun b j hb ver R hR => by
    obtain ⟨j', hj', h, _⟩ := hE0 b _ hR
    rw [hb] at hj'; cases hj'; exact h
  have H0 : SatH e0 E0 h0 w := by
    refine ⟨H.imm, fun i ver B hi => ?_, fun i hi => ?_, fun i ver R hi => ?_, fun i ver q hi => ?_, fun i i' ver ver' q q' hi hi' hr => ?_, ⟨Nat.le_refl _, fun _ _ _ => rfl, rfl, rfl, rfl, Env.Le.refl _, fun r o v hI => .inl ⟨v, hI⟩⟩⟩
    · obtain ⟨hb, j, hj, hjs⟩ := hh (i, ver, B) (getH_mem hi)
      obtain ⟨R, hR, hB⟩ := H.live j ver _ hjs
      refine ⟨R, by simp [E0, hi, hj, hR], ?_⟩
      rcases hB with ⟨b1, b2, b3⟩ | ⟨q, b1, b2, b3, b4, b5⟩
      · refine .inl ⟨b1, by rwa [renB_k] at b2, ?_⟩
        rw [renB_k] at b2
        unfold renB at b3
        rw [if_neg b2] at b3
        exact b3
      · by_cases hk : B.k = 0
        · simp only [okB, hk, if_true] at hb
          have hrb : renB (mapId τ) B = ⟨0, renL (mapId τ) B.cells⟩ := by simp [renB, hk]
          simp only [hrb] at b2 b3 b5
          obtain ⟨k1, k2⟩ := RVl_unren (E := E) (E' := E0) (fun _ _ _ x => x) (Nat.le_refl _) unr B.cells _ _ hb b5
          exact .inr ⟨q, b1, by rw [hk]; exact b2, by rw [← k1]; exact b3, b4, k2⟩
        · simp only [okB, if_neg hk] at hb
          have hrb : renB (mapId τ) B = B := by simp [renB, hk]
          simp only [hrb] at b2 b3 b5
          exact .inr ⟨q, b1, b2, b3, b4, RVl_clo (E := E) (E' := E0) (fun _ _ _ x => x) B.cells _ _ _ hb (fun _ _ x => x) b5⟩
    · simp [E0, hi]
    · obtain ⟨j, _, h, _⟩ := hE0 i _ hi; exact H.vers j ver R h
    · obtain ⟨j, _, h, _⟩ := hE0 i _ hi
      obtain ⟨h1, h2, _⟩ := H.ownd j ver q h
      exact ⟨h1, h2, .inl ⟨i, ver, q, hi, rfl⟩⟩
    · obtain ⟨j, hj, h, _⟩ := hE0 i _ hi
      obtain ⟨j', hj', h', _⟩ := hE0 i' _ hi'
      have := H.apart j j' ver ver' q q' h h' hr
      subst this
      have e1 := back_of_map hτ hj
      rw [back_of_map hτ hj'] at e1
      cases e1; rfl
  obtain ⟨hl0, hv0⟩ := RVl_unren (τ := mapId τ) (E := E) (E' := E0) (fun _ _ _ x => x) (Nat.le_refl _) unr args0 _ _ hok (hargs ▸ hv)
  refine (hc.2 e0 E0 w vs H0 (by rw [hl, hargs, hl0]) hv0).mono fun en w1 ⟨v, r, h1, E1, hen, hQ, l1, H1, hr⟩ => ?_
  obtain ⟨hokr, hokh, hKr⟩ := hK r h1 hQ
  let E2 : Env := { I := E1.I, ρ := fun j => match backId τ j with | some i => if (getH h1 i).isSome then E1.ρ i else none | none => E.ρ j, c := E1.c }
  have ren : ∀ b j, mapId τ b = some j → ∀ ver R, ver ≤ E1.c → E2.ρ j = some (ver, R) → E1.ρ b = some (ver, R) := fun b j hb ver R _ hR => by
    simp only [E2, back_of_map hτ hb] at hR
    split at hR
    · exact hR
    · cases hR
  have l2 : E.Le E2 := by
    refine ⟨l1.c, l1.I, fun j ver R hR hver => ?_⟩
    simp only [E2] at hR
    split at hR
    · rename_i i hi
      split at hR
      · have h := l1.ρ i ver R hR hver
        obtain ⟨j', hj', h2, _⟩ := hE0 i _ h
        rw [map_of_back hτ hi] at hj'
        cases hj'; exact h2
      · cases hR
    · exact hR
  have hcell : ∀ x ver q, E.ρ x = some (ver, some q) → backId τ x = none → ∀ o, w1.cell? ⟨q.r, o, none⟩ = w.cell? ⟨q.r, o, none⟩ ∧ w1.frozen? ⟨q.r, o, none⟩ = w.frozen? ⟨q.r, o, none⟩ := fun x ver q hx hb o => by
    have hn : ¬ e0.O q.r := by
      rintro ⟨i, ver', q', hi, hq⟩
      obtain ⟨j, hj, h, _⟩ := hE0 i _ hi
      have := H.apart j x ver' ver q' q h hx hq
      subst this
      rw [back_of_map hτ hj] at hb
      cases hb
    have := H1.gr.frame q.r (H.ownd x ver q hx).1 hn
    simp only [World.cell?, World.frozen?, this, e0, and_self]
  refine ⟨v, _, _, E2, hen, hKr, l2, ?_, RV_ren (E := E1) (E' := E2) (fun _ _ _ x => x) (Nat.le_refl _) ren r v hokr hr⟩
  refine ⟨H1.imm, fun j ver B hj => ?_, fun j hj => ?_, fun j ver R hj => ?_, fun j ver q hj => ?_, fun j j' ver ver' q q' hj hj' hr => ?_, ?_⟩
  · rw [getH_applyH] at hj
    cases hb : backId τ j with
    | some i =>
      simp only [hb] at hj
      obtain ⟨⟨ver', B'⟩, hg, hg2⟩ := Option.map_eq_some_iff.1 hj
      cases hg2
      obtain ⟨_, hokB⟩ := hokh _ (getH_mem hg)
      obtain ⟨R, hR, hB⟩ := H1.live i ver' B' hg
      refine ⟨R, by simp [E2, hb, hg, hR], ?_⟩
      rcases hB with ⟨b1, b2, b3⟩ | ⟨q, b1, b2, b3, b4, b5⟩
      · exact .inl ⟨b1, by rw [renB_k]; exact b2, by unfold renB; rw [if_neg b2]; exact b3⟩
      · by_cases hk : B'.k = 0
        · simp only [okB, hk, if_true] at hokB
          have hrb : renB (mapId τ) B' = ⟨0, renL (mapId τ) B'.cells⟩ := by simp [renB, hk]
          obtain ⟨k1, k2⟩ := RVl_ren (E := E1) (E' := E2) (fun _ _ _ x => x) (Nat.le_refl _) ren B'.cells _ _ hokB b5
          exact .inr ⟨q, b1, by rw [renB_k]; exact b2, by rw [hrb]; simp only; rw [k1]; exact b3, b4, by rw [hrb]; exact k2⟩
        · simp only [okB, if_neg hk] at hokB
          have hrb : renB (mapId τ) B' = B' := by simp [renB, hk]
          exact .inr ⟨q, b1, by rw [renB_k]; exact b2, by rw [hrb]; exact b3, b4, by rw [hrb]; exact RVl_clo (E := E1) (E' := E2) (fun _ _ _ x => x) B'.cells _ _ _ hokB (fun _ _ x => x) b5⟩
    | none =>
      simp only [hb] at hj
      obtain ⟨R, hR, hB⟩ := H.live j ver B hj
      exact ⟨R, by simp [E2, hb, hR], hB.mono l2 fun q o hq => hcell j ver q (hq ▸ hR) hb o⟩
  · rw [getH_applyH] at hj
    simp only [E2]
    cases hb : backId τ j with
    | some i =>
      simp only [hb, Option.map_eq_none_iff] at hj
      simp [hj]
    | none =>
      simp only [hb] at hj
      exact H.dead j hj
  · simp only [E2] at hj
    split at hj
    · split at hj
      · exact H1.vers _ _ _ hj
      · cases hj
    · exact Nat.le_trans (H.vers _ _ _ hj) l1.c
  · simp only [E2] at hj
    split at hj
    · rename_i i hi
      split at hj
      · obtain ⟨k1, k2, k3⟩ := H1.ownd _ _ _ hj
        refine ⟨k1, k2, ?_⟩
        rcases k3 with ⟨i', ver', q', hi', hq⟩ | k3
        · obtain ⟨j', _, h, _⟩ := hE0 i' _ hi'
          rw [← hq]
          exact (H.ownd j' ver' q' h).2.2
        · exact .inr (Nat.le_trans H.gr.size k3)
      · cases hj
    · rename_i hb
      obtain ⟨k1, k2, k3⟩ := H.ownd _ _ _ hj
      refine ⟨Nat.lt_of_lt_of_le k1 H1.gr.size, fun o => ?_, k3⟩
      cases hI : E1.I q.r o with
      | none => rfl
      | some v' =>
        exfalso
        rcases H1.gr.newI q.r o v' hI with ⟨v'', h2⟩ | ⟨i', ver', q', hi', hq⟩ | h2
        · have := k2 o; simp only [e0, E0] at h2; rw [this] at h2; cases h2
        · obtain ⟨j', hj', h, _⟩ := hE0 i' _ hi'
          have := H.apart j' j ver' ver q' q h hj hq
          subst this
          rw [back_of_map hτ hj'] at hb
          cases hb
        · simp only [e0] at h2; omega
  · have key : ∀ j ver q j' ver' q', E2.ρ j = some (ver, some q) → E2.ρ j' = some (ver', some q') → q.r = q'.r → backId τ j = none → (backId τ j').isSome = true → False := fun j ver q j' ver' q' hj hj' hr hb hb' => by
      obtain ⟨i, hi⟩ := Option.isSome_iff_exists.1 hb'
      simp only [E2, hb] at hj
      simp only [E2, hi] at hj'
      split at hj'
      · obtain ⟨k1, k2, k3⟩ := H1.ownd _ _ _ hj'
        obtain ⟨m1, _, _⟩ := H.ownd _ _ _ hj
        rcases k3 with ⟨i', v', q'', hi', hq⟩ | k3
        · obtain ⟨j'', hj'', h, _⟩ := hE0 i' _ hi'
          have := H.apart j'' j v' ver q'' q h hj (by rw [hq, hr])
          subst this
          rw [back_of_map hτ hj''] at hb
          cases hb
        · simp only [e0] at k3; omega
      · cases hj'
    cases hb : backId τ j with
    | none =>
      cases hb' : backId τ j' with
      | none =>
        simp only [E2, hb] at hj
        simp only [E2, hb'] at hj'
        exact H.apart _ _ _ _ _ _ hj hj' hr
      | some i' => exact (key _ _ _ _ _ _ hj hj' hr hb (by simp [hb'])).elim
    | some i =>
      cases hb' : backId τ j' with
      | none => exact (key _ _ _ _ _ _ hj' hj hr.symm hb' (by simp [hb])).elim
      | some i' =>
        simp only [E2, hb] at hj
        simp only [E2, hb'] at hj'
        split at hj
        · split at hj'
          · have := H1.apart _ _ _ _ _ _ hj hj' hr
            subst this
            have e1 := map_of_back hτ hb
            rw [map_of_back hτ hb'] at e1
            cases e1; rfl
          · cases hj'
        · cases hj
  · refine ⟨Nat.le_trans H.gr.size H1.gr.size, fun r hr hO => ?_, H1.gr.os.trans H.gr.os, H1.gr.tape.trans H.gr.tape, H1.gr.output.trans H.gr.output, H.gr.le.trans l2, fun r o v' hI => ?_⟩
    · rw [H1.gr.frame r (Nat.lt_of_lt_of_le hr H.gr.size) (fun ⟨i', ver', q', hi', hq⟩ => ?_)]
      · exact H.gr.frame r hr hO
      · obtain ⟨j', _, h, _⟩ := hE0 i' _ hi'
        rcases (H.ownd j' ver' q' h).2.2 with k | k
        · exact hO (hq ▸ k)
        · omega
    · rcases H1.gr.newI r o v' hI with ⟨v'', h2⟩ | ⟨i', ver', q', hi', hq⟩ | h2
      · exact H.gr.newI r o v'' h2
      · obtain ⟨j', _, h, _⟩ := hE0 i' _ hi'
        rcases (H.ownd j' ver' q' h).2.2 with k | k
        · exact .inr (.inl (hq ▸ k))
        · exact .inr (.inr (hq ▸ k))
      · exact .inr (.inr (Nat.le_trans H.gr.size h2))

end Go.Proofs.YtekmhdiajjfgfaaDoor.TL
