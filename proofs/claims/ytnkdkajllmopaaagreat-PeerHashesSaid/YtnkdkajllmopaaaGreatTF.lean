/- Own words: a branch that is known is the only one walked. No program is named here. -/
import Derived.Test.YtnkdkajllmopaaaGreatTD
namespace Go.Proofs.YtnkdkajllmopaaaGreat.TL
open Go
set_option linter.unusedVariables false
set_option linter.unusedSimpArgs false
variable {P : Program} {keep : List Nat} {Q : TX → TS → Prop} {x : Operand} {a b : Code} {t : List (Nat × TV)} {p : Nat × Nat × Blk} {h : Heap}

theorem condT_t {A B : Prop} : condT (.v (.bool true)) A B = A := by simp [condT]
theorem condT_f {A B : Prop} : condT (.v (.bool false)) A B = B := by simp [condT]
@[simp high] theorem wpT_condt0 (hx : (⟨t, []⟩ : TS).ev x = .v (.bool true)) : wpT P keep (.cond x a b) Q ⟨t, []⟩ = wpT P keep a Q ⟨t, []⟩ := by rw [wpT_cond0, hx, condT_t]
@[simp high] theorem wpT_condf0 (hx : (⟨t, []⟩ : TS).ev x = .v (.bool false)) : wpT P keep (.cond x a b) Q ⟨t, []⟩ = wpT P keep b Q ⟨t, []⟩ := by rw [wpT_cond0, hx, condT_f]
@[simp high] theorem wpT_condt1 (hx : (⟨t, p :: h⟩ : TS).ev x = .v (.bool true)) : wpT P keep (.cond x a b) Q ⟨t, p :: h⟩ = wpT P keep a Q ⟨t, p :: h⟩ := by rw [wpT_cond1, hx, condT_t]
@[simp high] theorem wpT_condf1 (hx : (⟨t, p :: h⟩ : TS).ev x = .v (.bool false)) : wpT P keep (.cond x a b) Q ⟨t, p :: h⟩ = wpT P keep b Q ⟨t, p :: h⟩ := by rw [wpT_cond1, hx, condT_f]

/-- A contract that tells its answer by what nobody knows. -/
theorem callT_exa {α : Type} {P : Program} {f : Nat} {args0 args : List TV} {s : TS} {h0 : Heap} {H1 : α → Heap} {R : α → TV} {K : TV → Heap → Prop} (τ : List (Nat × Nat)) (hc : callT P f args0 ⟨[], h0⟩ (fun r h => ∃ u, r = R u ∧ h = H1 u))
    (h : okTau τ = true ∧ args = renL (mapId τ) args0 ∧ okL (fun b => (mapId τ b).isSome = true) args0 ∧ (∀ p ∈ h0, okB (fun b => (mapId τ b).isSome = true) p.2.2 ∧ ∃ j, mapId τ p.1 = some j ∧ getH s.h j = some (p.2.1, renB (mapId τ) p.2.2)) ∧
      ∀ u, okT (fun _ => True) (R u) ∧ (∀ p ∈ H1 u, (mapId τ p.1).isSome = true ∧ okB (fun _ => True) p.2.2) ∧ K (renT (mapId τ) (R u)) (applyH (mapId τ) (H1 u) τ s.h)) : callT P f args s K := by
  obtain ⟨h1, h2, h3, h4, h5⟩ := h
  exact callT_use τ hc h1 h2 h3 h4 fun r h ⟨u, e1, e2⟩ => by subst e1 e2; exact h5 u
/-- The same, of which something is known. -/
theorem callT_exj {α : Type} {P : Program} {f : Nat} {args0 args : List TV} {s : TS} {h0 : Heap} {J : α → Prop} {H1 : α → Heap} {R : α → TV} {K : TV → Heap → Prop} (τ : List (Nat × Nat)) (hc : callT P f args0 ⟨[], h0⟩ (fun r h => ∃ u, J u ∧ r = R u ∧ h = H1 u))
    (h : okTau τ = true ∧ args = renL (mapId τ) args0 ∧ okL (fun b => (mapId τ b).isSome = true) args0 ∧ (∀ p ∈ h0, okB (fun b => (mapId τ b).isSome = true) p.2.2 ∧ ∃ j, mapId τ p.1 = some j ∧ getH s.h j = some (p.2.1, renB (mapId τ) p.2.2)) ∧
      ∀ u, J u → okT (fun _ => True) (R u) ∧ (∀ p ∈ H1 u, (mapId τ p.1).isSome = true ∧ okB (fun _ => True) p.2.2) ∧ K (renT (mapId τ) (R u)) (applyH (mapId τ) (H1 u) τ s.h)) : callT P f args s K := by
  obtain ⟨h1, h2, h3, h4, h5⟩ := h
  exact callT_use τ hc h1 h2 h3 h4 fun r h ⟨u, e0, e1, e2⟩ => by subst e1 e2; exact h5 u e0
/-- An argument is known less well. -/
theorem CLx.weak {args : List TV} {h : Heap} {S : List TV → Heap → Prop} (i : Nat) (x' : TV) {x : TV} (hi : args[i]? = some x) (hw : ∀ (E : Env) (y : Value), RV E x y → RV E x' y) (k : CLx (args.set i x') h S) : CLx args h S := fun e E w f H hv => by
  have hv' : RVl E (args.set i x') f 0 := RVl.of fun j z hz => by
    rw [List.getElem?_set] at hz
    split at hz
    · rename_i hij
      subst hij
      split at hz
      · cases hz
        obtain ⟨v, h1, h2⟩ := hv.get i x hi
        exact ⟨v, h1, hw E v h2⟩
      · cases hz
    · exact hv.get j z hz
  obtain ⟨args', h', E', hS, hl, hE, hH, hV⟩ := k e E w f H hv'
  exact ⟨args', h', E', hS, by rw [hl, List.length_set], hE, hH, hV⟩
theorem RV_nilI (E : Env) (y : Value) (h : RV E (.v (.slice none 0 0)) y) : RV E (.isl [] 0) y := by
  simp only [RV] at h ⊢
  exact .inl ⟨trivial, trivial, h⟩
theorem RV_nilA (E : Env) (y : Value) (h : RV E (.agg [.v (.slice none 0 0)]) y) : RV E (.agg [.isl [] 0]) y := by
  simp only [RV, RVl] at h ⊢
  obtain ⟨zs, h1, h2, ⟨v, h3, h4⟩, -⟩ := h
  exact ⟨zs, h1, h2, ⟨v, h3, .inl ⟨trivial, trivial, h4⟩⟩, trivial⟩
end Go.Proofs.YtnkdkajllmopaaaGreat.TL
