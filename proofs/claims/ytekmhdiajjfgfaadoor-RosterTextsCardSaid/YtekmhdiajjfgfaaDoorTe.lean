/- Own words, part 3: elements, slices, new memory, lengths. No program is named here. -/
import Derived.Test.YtekmhdiajjfgfaaDoorTd
namespace Go.Proofs.YtekmhdiajjfgfaaDoor.TL
open Go
set_option linter.unusedVariables false
set_option linter.unusedSimpArgs false

section
variable {P : Program} {e : Ent} {E : Env} {s : TS} {w : World}

/-- A slice type's element: how many cells; an array's: how many elements, how many cells each. -/
def elemOf (P : Program) (t : Nat) : Option Nat :=
  match P.underlying t with
  | some (.slice e) => if 0 < szOf P e ∧ (zeroOf P e).map (·.length) = some (szOf P e) then some (szOf P e) else none
  | _ => none
def arrOf (P : Program) (t : Nat) : Option (Nat × Nat) :=
  match P.underlying t with
  | some (.array n e) => if 0 < szOf P e then some (n, szOf P e) else none
  | _ => none
theorem elemOf_all {t k : Nat} (h : elemOf P t = some k) : ∃ e i z, P.underlying t = some (.slice e) ∧ szOf P e = k ∧ 0 < k ∧ P.info? e = some i ∧ i.size = k ∧ i.zero = some z ∧ z.cells.size = k := by
  unfold elemOf at h
  split at h
  · rename_i e he
    split at h
    · rename_i hc
      cases h
      obtain ⟨h1, h2⟩ := hc
      cases hi : P.info? e with
      | none => simp [szOf, hi] at h1
      | some i =>
        cases hz : i.zero with
        | none => simp [zeroOf, hi, hz] at h2
        | some z => exact ⟨e, i, z, he, rfl, h1, hi, by simp [szOf, hi], hz, by simpa [zeroOf, hi, hz] using h2⟩
    · cases h
  · cases h
theorem elemOf_spec {t k : Nat} (h : elemOf P t = some k) : ∃ e, P.underlying t = some (.slice e) ∧ szOf P e = k ∧ 0 < k := by
  obtain ⟨e, i, z, h1, h2, h3, _⟩ := elemOf_all h
  exact ⟨e, h1, h2, h3⟩
theorem arrOf_spec {t n k : Nat} (h : arrOf P t = some (n, k)) : ∃ e, P.underlying t = some (.array n e) ∧ szOf P e = k ∧ 0 < k := by
  unfold arrOf at h
  split at h
  · rename_i n' e he
    split at h
    · cases h; exact ⟨e, he, rfl, by assumption⟩
    · cases h
  · cases h

def idxT (P : Program) (t : Nat) (x i : TV) (K : TV → Prop) : Prop :=
  match i with
  | .v (.int _ i) => match elemOf P t, arrOf P t, x with
    | some k, _, .sl b ver o n => (0 ≤ i ∧ i < n) ∧ K (.at b ver (o + i.toNat * k))
    | some k, _, .isl c n => (0 ≤ i ∧ i < n ∧ n * k ≤ c.length) ∧ K (.iat (c.drop (i.toNat * k)))
    | none, some (n, k), .at b ver o => (0 ≤ i ∧ i < n) ∧ K (.at b ver (o + i.toNat * k))
    | none, some (n, k), .iat c => (0 ≤ i ∧ i < n) ∧ K (.iat (c.drop (i.toNat * k)))
    | _, _, _ => False
  | _ => False

theorem idxT_sound {t : Nat} {x i : TV} {u v : Value} {K : TV → Prop} (hx : RV E x u) (hi : RV E i v) (h : idxT P t x i K) :
    ∃ r z, K r ∧ RV E r z ∧ (Instr.indexAt t u v).run P w = .ok z w := by
  unfold idxT at h
  split at h
  · rename_i ki i
    simp only [RV] at hi
    subst hi
    split at h
    · rename_i k _ b ver o n hk
      obtain ⟨ee, h1, rfl, h3⟩ := elemOf_spec hk
      obtain ⟨⟨h4, h5⟩, hK⟩ := h
      simp only [RV] at hx
      obtain ⟨a, cap, rfl, h6, h60, h7, h8⟩ := hx
      have hn : n ≠ 0 := by omega
      cases a with
      | none =>
        have := h60 rfl
        omega
      | some a =>
        refine ⟨_, .pointer (some (a.add (i.toNat * szOf P ee))), hK, ?_, by simp [Instr.indexAt, run_underlying h1, asIntOf, h4, h5, run_szOf h3]⟩
        simp only [RV]
        refine ⟨_, rfl, h7, fun R hR => ?_⟩
        rcases h8 R hR with ⟨_, h9, _⟩ | ⟨q, a', rfl, h9, h10, _⟩
        · exact absurd h9 hn
        · cases h9
          rcases h10 with h10 | rfl
          · omega
          · exact ⟨q, rfl, by rw [Addr.add_lit]; simp [Nat.add_assoc]⟩
    · rename_i k _ c n hk
      obtain ⟨ee, h1, rfl, h3⟩ := elemOf_spec hk
      obtain ⟨⟨h4, h5, h6⟩, hK⟩ := h
      simp only [RV] at hx
      rcases hx with ⟨rfl, _, _⟩ | ⟨a, cap, rfl, h7, h8⟩
      · omega
      · have hl : i.toNat * szOf P ee < c.length := Nat.lt_of_lt_of_le (Nat.mul_lt_mul_of_pos_right (by omega : i.toNat < n) h3) h6
        refine ⟨_, .pointer (some (a.add (i.toNat * szOf P ee))), hK, ?_, by simp [Instr.indexAt, run_underlying h1, asIntOf, h4, h5, run_szOf h3]⟩
        simp only [RV]
        rcases h8 with rfl | ⟨h8, h9⟩
        · simp at hl
        · rw [add_spot _ _ h8]
          exact ⟨_, rfl, rfl, h9.drop _⟩
    · rename_i n k b ver o hk1 hk
      obtain ⟨ee, h1, rfl, h3⟩ := arrOf_spec hk
      obtain ⟨⟨h4, h5⟩, hK⟩ := h
      simp only [RV] at hx
      obtain ⟨p, rfl, h7, h8⟩ := hx
      refine ⟨_, .pointer (some (p.add (i.toNat * szOf P ee))), hK, ?_, by simp [Instr.indexAt, run_underlying h1, asIntOf, h4, h5, run_szOf h3, Instr.sureAddr]⟩
      simp only [RV]
      refine ⟨_, rfl, h7, fun R hR => ?_⟩
      obtain ⟨q, rfl, rfl⟩ := h8 R hR
      exact ⟨q, rfl, by rw [Addr.add_lit]; simp [Nat.add_assoc]⟩
    · rename_i n k c hk1 hk
      obtain ⟨ee, h1, rfl, h3⟩ := arrOf_spec hk
      obtain ⟨⟨h4, h5⟩, hK⟩ := h
      simp only [RV] at hx
      obtain ⟨p, rfl, h7, h8⟩ := hx
      refine ⟨_, .pointer (some (p.add (i.toNat * szOf P ee))), hK, ?_, by simp [Instr.indexAt, run_underlying h1, asIntOf, h4, h5, run_szOf h3, Instr.sureAddr]⟩
      simp only [RV]
      rw [add_spot _ _ h7]
      exact ⟨_, rfl, rfl, h8.drop _⟩
    · exact h.elim
  · exact h.elim

theorem sl_extract (z : ByteArray) (a b : Nat) : sl (z.extract a b) = ((sl z).drop a).take (b - a) := by
  simp [sl, ByteArray.data_extract, List.extract_eq_take_drop]

def bnd (o : Option TV) (d : Int) : Option Int :=
  match o with
  | none => some d
  | some (.v (.int _ n)) => some n
  | _ => none

def sliceT (P : Program) (t : Nat) (s : TS) (x : TV) (lo hi : Option TV) (K : TV → Prop) : Prop :=
  match x with
  | .v (.string z) => match kdOf P t, bnd lo 0, bnd hi (sl z).length with
    | .str, some l, some h => (0 ≤ l ∧ l ≤ h ∧ h ≤ (sl z).length) ∧ K (.v (.string (bs (((sl z).drop l.toNat).take (h - l).toNat))))
    | _, _, _ => False
  | .sl b ver o n => match elemOf P t, getH s.h b with
    | some k, some (ver', B) => match bnd lo 0, bnd hi n with
      | some l, some h => (ver = ver' ∧ (B.k = 0 ∨ B.k = k) ∧ 0 ≤ l ∧ l ≤ h ∧ (h ≤ n ∨ B.k = k ∧ o + h.toNat * k ≤ B.cells.length)) ∧ K (.sl b ver (o + l.toNat * k) (h - l).toNat)
      | _, _ => False
    | _, _ => False
  | .isl c n => match elemOf P t, bnd lo 0, bnd hi n with
    | some k, some l, some h => (0 ≤ l ∧ l ≤ h ∧ h ≤ n ∧ n * k ≤ c.length) ∧ K (.isl ((c.drop (l.toNat * k)).take ((h - l).toNat * k)) (h - l).toNat)
    | _, _, _ => False
  | .v (.slice none 0 0) => match elemOf P t, bnd lo 0, bnd hi 0 with
    | some k, some l, some h => (l = 0 ∧ h = 0) ∧ K (.v (.slice none 0 0))
    | _, _, _ => False
  | .at b ver o => match arrOf P t, getH s.h b with
    | some (n, k), some (ver', B) => match bnd lo 0, bnd hi n with
      | some l, some h => (ver = ver' ∧ B.k = 0 ∧ 0 ≤ l ∧ l ≤ h ∧ h ≤ n) ∧ K (.sl b ver (o + l.toNat * k) (h - l).toNat)
      | _, _ => False
    | _, _ => False
  | .iat c => match arrOf P t with
    | some (n, k) => match bnd lo 0, bnd hi n with
      | some l, some h => (0 ≤ l ∧ l ≤ h ∧ h ≤ n ∧ n * k ≤ c.length) ∧ K (.isl ((c.drop (l.toNat * k)).take ((h - l).toNat * k)) (h - l).toNat)
      | _, _ => False
    | none => False
  | _ => False

/-- The bounds of a slice expression, known. -/
theorem bounds_run {lo hi : Option TV} {lov hiv : Option Value} {l h d : Int} {n cap : Nat} {isl : Bool} (hlo : ∀ x, lo = some x → ∃ v, lov = some v ∧ RV E x v) (hlo' : lo = none → lov = none) (hhi : ∀ x, hi = some x → ∃ v, hiv = some v ∧ RV E x v) (hhi' : hi = none → hiv = none)
    (h1 : bnd lo 0 = some l) (h2 : bnd hi n = some h) (hl : 0 ≤ l) (hlh : l ≤ h) (hn : h ≤ cap) (hd : n ≤ cap) :
    (Instr.sliceBounds isl n cap lov hiv none).run P w = .ok (l.toNat, h.toNat, cap) w := by
  have a1 : (lov = none ∧ l = 0) ∨ ∃ k, lov = some (.int k l) := by
    cases lo with
    | none => exact .inl ⟨hlo' rfl, by simpa [bnd] using h1.symm⟩
    | some x =>
      obtain ⟨v, rfl, hv⟩ := hlo x rfl
      cases x with
      | v z => cases z with
        | int k m => simp only [RV] at hv; subst hv; simp [bnd] at h1; exact .inr ⟨k, by rw [h1]⟩
        | _ => simp [bnd] at h1
      | _ => simp [bnd] at h1
  have a2 : (hiv = none ∧ h = n) ∨ ∃ k, hiv = some (.int k h) := by
    cases hi with
    | none => exact .inl ⟨hhi' rfl, by simpa [bnd] using h2.symm⟩
    | some x =>
      obtain ⟨v, rfl, hv⟩ := hhi x rfl
      cases x with
      | v z => cases z with
        | int k m => simp only [RV] at hv; subst hv; simp [bnd] at h2; exact .inr ⟨k, by rw [h2]⟩
        | _ => simp [bnd] at h2
      | _ => simp [bnd] at h2
  have hh : (h.toNat : Int) = h := Int.toNat_of_nonneg (by omega)
  rcases a1 with ⟨rfl, rfl⟩ | ⟨k1, rfl⟩ <;> rcases a2 with ⟨rfl, rfl⟩ | ⟨k2, rfl⟩
  · simp [Instr.sliceBounds]
  · simp [Instr.sliceBounds, run_sliceBound _ _ _ _ _ (by omega : 0 ≤ h) hn]
  · simp [Instr.sliceBounds, run_sliceBound _ _ _ _ _ hl hlh]
  · simp [Instr.sliceBounds, run_sliceBound _ _ _ _ _ (by omega : 0 ≤ h) hn, run_sliceBound _ _ _ _ _ hl (by omega : l ≤ (h.toNat : Int))]

theorem sliceT_sound {t : Nat} {x : TV} {u : Value} {lo hi : Option TV} {lov hiv : Option Value} {K : TV → Prop} (H : SatH e E s.h w) (hx : RV E x u)
    (hlo : ∀ x, lo = some x → ∃ v, lov = some v ∧ RV E x v) (hlo' : lo = none → lov = none) (hhi : ∀ x, hi = some x → ∃ v, hiv = some v ∧ RV E x v) (hhi' : hi = none → hiv = none)
    (h : sliceT P t s x lo hi K) : ∃ r z, K r ∧ RV E r z ∧ (Instr.sliceAt t u lov hiv none).run P w = .ok z w := by
  unfold sliceT at h
  split at h
  · rename_i z
    simp only [RV] at hx; subst hx
    split at h
    · rename_i l h' hk hl hh
      obtain ⟨⟨c1, c2, c3⟩, hK⟩ := h
      refine ⟨_, _, hK, by simp only [RV]; rfl, ?_⟩
      have ht := kdOf_str hk
      rw [run_sliceAt_string w t _ _ _ _ ht]
      rw [← size_sl] at hh c3
      have := bounds_run (P := P) (E := E) (w := w) (isl := false) (d := 0) hlo hlo' hhi hhi' hl hh c1 c2 c3 (Nat.le_refl _)
      simp only [Instr.slice, Sem.run_bind, run_underlying ht, Result.andThen_ok, Bool.false_eq_true, if_false, Option.isSome_none, Sem.run_pure, this]
      congr 2
      apply sl_inj.1
      rw [sl_extract, sl_bs]
      congr 1
      omega
    · exact h.elim
  · rename_i b ver o n
    split at h
    · rename_i k ver' B hk hb
      split at h
      · rename_i l h' hl hh
        obtain ⟨ee, h1, rfl, h3⟩ := elemOf_spec hk
        obtain ⟨⟨rfl, hBk, c1, c2, c3⟩, hK⟩ := h
        obtain ⟨R, hR, hB⟩ := H.live b ver B hb
        simp only [RV] at hx
        obtain ⟨a, cap, rfl, h6, h60, h7, h8⟩ := hx
        have hel : P.elem t = ee := by simp [Program.elem, h1]
        have e2 : h'.toNat - l.toNat = (h' - l).toNat := by omega
        have hcap : h' ≤ cap := by
          rcases c3 with c3 | ⟨hBk2, c3⟩
          · omega
          · have hz : o + h'.toNat * szOf P ee ≤ o + cap * szOf P ee := by
              rcases h8 R hR with ⟨rfl, h10, rfl, rfl⟩ | ⟨q, a', rfl, rfl, h10, h11⟩
              · rcases hB with ⟨_, _, k0⟩ | ⟨q', k1, _⟩
                · rw [k0] at c3; simp at c3 ⊢; omega
                · cases k1
              · rcases hB with ⟨k0, _, _⟩ | ⟨q', k1, k2, k3, _, _⟩
                · cases k0
                cases k1
                have h12 := h11 (by omega)
                rw [k2, hBk2] at h12
                omega
            have := Nat.le_of_mul_le_mul_right (by omega : h'.toNat * szOf P ee ≤ cap * szOf P ee) h3
            omega
        have := bounds_run (P := P) (E := E) (w := w) (isl := true) (d := 0) (n := n) (cap := cap) hlo hlo' hhi hhi' hl hh c1 c2 (by omega) h6
        refine ⟨_, sliced a l.toNat h'.toNat cap (szOf P ee), hK, ?_, by
          rw [run_sliceAt_slice w t _ _ _ _ (by rw [hel]; exact h1), run_slice_any w t _ _ _ (by rw [hel]; exact h1), this, hel]
          simp only [Result.andThen_ok, run_szOf h3]⟩
        simp only [RV, sliced, e2]
        refine ⟨_, _, rfl, by omega, fun hn => ?_, h7, fun R' hR' => ?_⟩
        · split at hn
          · rename_i he; have := h60 hn; omega
          · cases a with
            | none => have := h60 rfl; omega
            | some a => cases hn
        · rw [hR] at hR'
          cases hR'
          rcases h8 R hR with ⟨h9, h10, rfl, rfl⟩ | ⟨q, a', rfl, rfl, h10, h11⟩
          · exact .inl ⟨h9, by omega, by split <;> rfl, by omega⟩
          · refine .inr ⟨q, if cap = l.toNat then a' else a'.add (l.toNat * szOf P ee), rfl, by split <;> rfl, ?_, fun hk0 => ?_⟩
            · by_cases he : cap = l.toNat
              · exact .inl (by omega)
              · rw [if_neg he]
                rcases h10 with h10 | rfl
                · omega
                · refine .inr ?_
                  rw [Addr.add_lit]
                  simp [Nat.add_assoc]
            · have h12 := h11 hk0
              rcases hB with ⟨k0, _, _⟩ | ⟨q', k1, k2, _, _, _⟩
              · cases k0
              cases k1
              have h13 : q.k = szOf P ee := by rw [k2]; exact hBk.resolve_left (by rw [← k2]; exact hk0)
              rw [← h13]
              have h14 : l.toNat * q.k + (cap - l.toNat) * q.k = cap * q.k := by rw [← Nat.add_mul]; congr 1; omega
              omega
      · exact h.elim
    · exact h.elim
  · rename_i c n
    split at h
    · rename_i k l h' hk hl hh
      obtain ⟨ee, h1, rfl, h3⟩ := elemOf_spec hk
      obtain ⟨⟨c1, c2, c3, c4⟩, hK⟩ := h
      have hel : P.elem t = ee := by simp [Program.elem, h1]
      have e2 : h'.toNat - l.toNat = (h' - l).toNat := by omega
      simp only [RV] at hx
      rcases hx with ⟨rfl, rfl, rfl⟩ | ⟨a, cap, rfl, h6, h7⟩
      · have := bounds_run (P := P) (E := E) (w := w) (isl := true) (d := 0) (n := 0) (cap := 0) hlo hlo' hhi hhi' hl hh c1 c2 (by omega) (Nat.le_refl _)
        refine ⟨_, sliced none l.toNat h'.toNat 0 (szOf P ee), hK, ?_, by
          rw [run_sliceAt_slice w t _ _ _ _ (by rw [hel]; exact h1), run_slice_any w t _ _ _ (by rw [hel]; exact h1), this, hel]
          simp only [Result.andThen_ok, run_szOf h3]⟩
        simp only [RV, sliced, e2]
        exact .inl ⟨by omega, by simp, by congr 1 <;> first | omega | (split <;> rfl)⟩
      · have := bounds_run (P := P) (E := E) (w := w) (isl := true) (d := 0) (n := n) (cap := cap) hlo hlo' hhi hhi' hl hh c1 c2 (by omega) h6
        refine ⟨_, sliced (some a) l.toNat h'.toNat cap (szOf P ee), hK, ?_, by
          rw [run_sliceAt_slice w t _ _ _ _ (by rw [hel]; exact h1), run_slice_any w t _ _ _ (by rw [hel]; exact h1), this, hel]
          simp only [Result.andThen_ok, run_szOf h3]⟩
        simp only [RV, sliced, e2]
        refine .inr ⟨if cap = l.toNat then a else a.add (l.toNat * szOf P ee), _, by split <;> rfl, by omega, ?_⟩
        rcases h7 with rfl | ⟨h7, h8⟩
        · exact .inl (by simp)
        · by_cases he : cap = l.toNat
          · refine .inl ?_
            have : (h' - l).toNat = 0 := by omega
            simp [this]
          · rw [if_neg he, add_spot _ _ h7]
            exact .inr ⟨rfl, (h8.drop _).take _⟩
    · exact h.elim
  · simp only [RV] at hx
    subst hx
    split at h
    · rename_i k l h' hk hl hh
      obtain ⟨ee, h1, rfl, h3⟩ := elemOf_spec hk
      obtain ⟨⟨rfl, rfl⟩, hK⟩ := h
      have hel : P.elem t = ee := by simp [Program.elem, h1]
      have := bounds_run (P := P) (E := E) (w := w) (isl := true) (d := 0) (n := 0) (cap := 0) hlo hlo' hhi hhi' hl hh (Int.le_refl _) (Int.le_refl _) (Int.le_refl _) (Nat.le_refl _)
      refine ⟨_, .slice none 0 0, hK, by simp only [RV], ?_⟩
      rw [run_sliceAt_slice w t _ _ _ _ (by rw [hel]; exact h1), run_slice_any w t _ _ _ (by rw [hel]; exact h1), this, hel]
      simp only [Result.andThen_ok, run_szOf h3, sliced]
      rfl
    · exact h.elim
  · rename_i b ver o
    split at h
    · rename_i n k ver' B hk hb
      split at h
      · rename_i l h' hl hh
        obtain ⟨ee, h1, rfl, h3⟩ := arrOf_spec hk
        obtain ⟨⟨rfl, hBk, c1, c2, c3⟩, hK⟩ := h
        obtain ⟨R, hR, hB⟩ := H.live b ver B hb
        simp only [RV] at hx
        obtain ⟨p, rfl, h7, h8⟩ := hx
        have e2 : h'.toNat - l.toNat = (h' - l).toNat := by omega
        have := bounds_run (P := P) (E := E) (w := w) (isl := false) (d := 0) (n := n) (cap := n) hlo hlo' hhi hhi' hl hh c1 c2 c3 (Nat.le_refl _)
        refine ⟨_, .slice (some (if n = l.toNat then p else p.add (l.toNat * szOf P ee))) (h'.toNat - l.toNat) (n - l.toNat), hK, ?_, by
          simp [Instr.sliceAt, run_underlying h1, Instr.sureAddr, this, run_szOf h3]⟩
        simp only [RV, e2]
        refine ⟨_, _, rfl, by omega, (fun hn => by cases hn), h7, fun R' hR' => ?_⟩
        rw [hR] at hR'
        cases hR'
        obtain ⟨q, rfl, rfl⟩ := h8 R hR
        refine .inr ⟨q, _, rfl, rfl, ?_, fun hk0 => ?_⟩
        · by_cases he : n = l.toNat
          · exact .inl (by omega)
          · rw [if_neg he, Addr.add_lit]
            exact .inr (by simp [Nat.add_assoc])
        · rcases hB with ⟨k0, _, _⟩ | ⟨q', k1, k2, _, _, _⟩
          · cases k0
          cases k1
          exact absurd (k2.trans hBk) hk0
      · exact h.elim
    · exact h.elim
  · rename_i c
    split at h
    · rename_i n k hk
      split at h
      · rename_i l h' hl hh
        obtain ⟨ee, h1, rfl, h3⟩ := arrOf_spec hk
        obtain ⟨⟨c1, c2, c3, c4⟩, hK⟩ := h
        simp only [RV] at hx
        obtain ⟨p, rfl, h7, h8⟩ := hx
        have e2 : h'.toNat - l.toNat = (h' - l).toNat := by omega
        have := bounds_run (P := P) (E := E) (w := w) (isl := false) (d := 0) (n := n) (cap := n) hlo hlo' hhi hhi' hl hh c1 c2 c3 (Nat.le_refl _)
        refine ⟨_, .slice (some (if n = l.toNat then p else p.add (l.toNat * szOf P ee))) (h'.toNat - l.toNat) (n - l.toNat), hK, ?_, by
          simp [Instr.sliceAt, run_underlying h1, Instr.sureAddr, this, run_szOf h3]⟩
        simp only [RV, e2]
        refine .inr ⟨_, _, rfl, by omega, ?_⟩
        by_cases he : n = l.toNat
        · refine .inl ?_
          have : (h' - l).toNat = 0 := by omega
          simp [this]
        · rw [if_neg he, add_spot _ _ h7]
          exact .inr ⟨rfl, (h8.drop _).take _⟩
      · exact h.elim
    · exact h.elim
  · exact h.elim
end
end Go.Proofs.YtekmhdiajjfgfaaDoor.TL
