/- Own words, part 14: the rules as simp's, and what simp leaves alone. No program is named here. -/
import Derived.Test.YtekmhdiajjfgfaaDoorTg2
namespace Go.Proofs.YtekmhdiajjfgfaaDoor.TL
open Go
set_option linter.unusedVariables false
set_option linter.unusedSimpArgs false

/- A state whose heap isn't written out stands as it is: so simp does not walk code behind a call whose answer isn't known yet. -/
section
variable {P : Program} {ops : Array Oper} {keep : List Nat} {t : List (Nat × TV)} {p : Nat × Nat × Blk} {h : Heap} {o : Oper} {l : List Oper} {K : TS → Prop} {Q : TX → TS → Prop} {a b : Code} {i : Nat} {d : Bool} {x : Operand} {ops : Array Oper}
@[simp] theorem opsT_nil {s : TS} : opsT P ops [] s K = K s := rfl
@[simp] theorem opsT_cons0 : opsT P ops (o :: l) ⟨t, []⟩ K = stepT P ops o ⟨t, []⟩ fun s' => opsT P ops l s' K := rfl
@[simp] theorem opsT_cons1 : opsT P ops (o :: l) ⟨t, p :: h⟩ K = stepT P ops o ⟨t, p :: h⟩ fun s' => opsT P ops l s' K := rfl
@[simp] theorem quietT_nil {s : TS} {K : TS → Prop} : quietT P ops [] s K = K s := rfl
@[simp] theorem quietT_cons0 {K : TS → Prop} : quietT P ops (o :: l) ⟨t, []⟩ K = qstepT P ops o ⟨t, []⟩ fun v h => quietT P ops l ⟨(o.dst.getD 0, v) :: t, h⟩ K := rfl
@[simp] theorem quietT_cons1 {K : TS → Prop} : quietT P ops (o :: l) ⟨t, p :: h⟩ K = qstepT P ops o ⟨t, p :: h⟩ fun v h => quietT P ops l ⟨(o.dst.getD 0, v) :: t, h⟩ K := rfl
@[simp] theorem chT_nil {X : Type} {g : X → Heap} {x0 : X} {J : X → Prop} {K : List (Nat × TV) → (X → Prop) → Prop} : chT P ops g x0 [] J t K = K t J := rfl
@[simp] theorem chT_cons0 {X : Type} {g : X → Heap} {x0 : X} {J : X → Prop} {K : List (Nat × TV) → (X → Prop) → Prop} : chT P ops g x0 (o :: l) J [] K = chStep P ops g x0 o J [] fun t' J' => chT P ops g x0 l J' t' K := rfl
@[simp] theorem chT_cons1 {X : Type} {g : X → Heap} {x0 : X} {J : X → Prop} {q : Nat × TV} {K : List (Nat × TV) → (X → Prop) → Prop} : chT P ops g x0 (o :: l) J (q :: t) K = chStep P ops g x0 o J (q :: t) fun t' J' => chT P ops g x0 l J' t' K := rfl
@[simp] theorem lastT0 {K : TS → Prop} : lastT P ops K ⟨t, []⟩ = match ops[ops.size - 1]? with | some o => stepT P ops o ⟨t, []⟩ K | none => False := rfl
@[simp] theorem lastT1 {K : TS → Prop} : lastT P ops K ⟨t, p :: h⟩ = match ops[ops.size - 1]? with | some o => stepT P ops o ⟨t, p :: h⟩ K | none => False := rfl
@[simp] theorem wpT_skip {s : TS} : wpT P keep .skip Q s = Q .normal s := rfl
@[simp] theorem wpT_exit {s : TS} : wpT P keep (.exit i) Q s = Q (.exit i) s := rfl
@[simp] theorem wpT_ret {s : TS} : wpT P keep .ret Q s = Q .ret s := rfl
@[simp] theorem wpT_region0 : wpT P keep (.region i ops false) Q ⟨t, []⟩ = opsT P ops ops.toList ⟨t, []⟩ fun s' => Q .normal (keepT keep s') := rfl
@[simp] theorem wpT_region1 : wpT P keep (.region i ops false) Q ⟨t, p :: h⟩ = opsT P ops ops.toList ⟨t, p :: h⟩ fun s' => Q .normal (keepT keep s') := rfl
@[simp] theorem wpT_draw0 : wpT P keep (.region i ops true) Q ⟨t, []⟩ = drawT P ops ⟨t, []⟩ fun s' => Q .normal (keepT keep s') := rfl
@[simp] theorem wpT_draw1 : wpT P keep (.region i ops true) Q ⟨t, p :: h⟩ = drawT P ops ⟨t, p :: h⟩ fun s' => Q .normal (keepT keep s') := rfl
@[simp] theorem wpT_seq0 : wpT P keep (.seq a b) Q ⟨t, []⟩ = wpT P keep a (thenT (wpT P keep b Q) Q) ⟨t, []⟩ := rfl
@[simp] theorem wpT_seq1 : wpT P keep (.seq a b) Q ⟨t, p :: h⟩ = wpT P keep a (thenT (wpT P keep b Q) Q) ⟨t, p :: h⟩ := rfl
@[simp] theorem wpT_cond0 : wpT P keep (.cond x a b) Q ⟨t, []⟩ = condT ((⟨t, []⟩ : TS).ev x) (wpT P keep a Q ⟨t, []⟩) (wpT P keep b Q ⟨t, []⟩) := rfl
@[simp] theorem wpT_cond1 : wpT P keep (.cond x a b) Q ⟨t, p :: h⟩ = condT ((⟨t, p :: h⟩ : TS).ev x) (wpT P keep a Q ⟨t, p :: h⟩) (wpT P keep b Q ⟨t, p :: h⟩) := rfl
@[simp] theorem wpT_block0 : wpT P keep (.block i a) Q ⟨t, []⟩ = wpT P keep a (inBlk i Q) ⟨t, []⟩ := rfl
@[simp] theorem wpT_block1 : wpT P keep (.block i a) Q ⟨t, p :: h⟩ = wpT P keep a (inBlk i Q) ⟨t, p :: h⟩ := rfl
@[simp] theorem wpT_loop0 : wpT P keep (.loop a) Q ⟨t, []⟩ = loopT (wpT P keep a) Q ⟨t, []⟩ := rfl
@[simp] theorem wpT_loop1 : wpT P keep (.loop a) Q ⟨t, p :: h⟩ = loopT (wpT P keep a) Q ⟨t, p :: h⟩ := rfl
end

attribute [simp] thenT inBlk condT stepT qstepT callsT chStep guardsOf qopB frzSlice freshB isEff slNil nilT qop effT TS.ev TS.evg TS.to strip getT getH setH delH argsT qnil qfieldAddr qfield qextract qload qread qbin qbinT qeq eqAt eqS qpick qun qidx qslice qslice3 qlen qmm qindex qbuild qconv bnd keepT retT resL resOne oneT restH clearT tailT Value.oneCell' storeT cellsOf cellV over fillT boxT allocT buildSliceT appT srcT funT
  renT renL guardOf allB impL optL stripL stripS mapId applyH renB okB okT okL okTau backId Clo CloL List.zipIdx no famSteps after doneAt Region.binds getT_onD all_onD onD frzT frzL mvT mvL mvH dl chA freeOp lk effG

theorem callT_eq {P : Program} {f : Nat} {args0 args : List TV} {s : TS} {h0 H1 : Heap} {R : TV} {K : TV → Heap → Prop} (τ : List (Nat × Nat)) (hc : callT P f args0 ⟨[], h0⟩ (fun r h => r = R ∧ h = H1))
    (h : okTau τ = true ∧ args = renL (mapId τ) args0 ∧ okL (fun b => (mapId τ b).isSome = true) args0 ∧ (∀ p ∈ h0, okB (fun b => (mapId τ b).isSome = true) p.2.2 ∧ ∃ j, mapId τ p.1 = some j ∧ getH s.h j = some (p.2.1, renB (mapId τ) p.2.2)) ∧
      okT (fun _ => True) R ∧ (∀ p ∈ H1, (mapId τ p.1).isSome = true ∧ okB (fun _ => True) p.2.2) ∧ K (renT (mapId τ) R) (applyH (mapId τ) H1 τ s.h)) : callT P f args s K := by
  obtain ⟨h1, h2, h3, h4, h5, h6, h7⟩ := h
  exact callT_use τ hc h1 h2 h3 h4 fun r h ⟨e1, e2⟩ => by subst e1 e2; exact ⟨h5, h6, h7⟩

theorem callT_ex {P : Program} {f : Nat} {args0 args : List TV} {s : TS} {h0 : Heap} {H1 : Nat → Heap} {R : Nat → TV} {K : TV → Heap → Prop} (τ : List (Nat × Nat)) (hc : callT P f args0 ⟨[], h0⟩ (fun r h => ∃ u, r = R u ∧ h = H1 u))
    (h : okTau τ = true ∧ args = renL (mapId τ) args0 ∧ okL (fun b => (mapId τ b).isSome = true) args0 ∧ (∀ p ∈ h0, okB (fun b => (mapId τ b).isSome = true) p.2.2 ∧ ∃ j, mapId τ p.1 = some j ∧ getH s.h j = some (p.2.1, renB (mapId τ) p.2.2)) ∧
      ∀ u, okT (fun _ => True) (R u) ∧ (∀ p ∈ H1 u, (mapId τ p.1).isSome = true ∧ okB (fun _ => True) p.2.2) ∧ K (renT (mapId τ) (R u)) (applyH (mapId τ) (H1 u) τ s.h)) : callT P f args s K := by
  obtain ⟨h1, h2, h3, h4, h5⟩ := h
  exact callT_use τ hc h1 h2 h3 h4 fun r h ⟨u, e1, e2⟩ => by subst e1 e2; exact h5 u

theorem fn_of {P : Program} {f : Nat} {args : List TV} {s : TS} {K : TV → Heap → Prop} (h : callT P f args s K) : ∃ fn, P.funcs[f]? = some fn ∧ (fn.name == "runtime.NumGoroutine") = false ∧ fn.body.isNone = false := h.1

@[simp] theorem CloL_map_bv (l : List UInt8) : CloL (l.map bv) := CloL_iff.2 fun x hx => by
  obtain ⟨b, _, rfl⟩ := List.mem_map.1 hx
  simp [bv]
@[simp] theorem AllC_map_bv (l : List UInt8) : AllC (l.map bv) := fun x hx => by
  obtain ⟨b, _, rfl⟩ := List.mem_map.1 hx
  simp [bv]
@[simp] theorem CloL_append (l l' : List TV) : CloL (l ++ l') ↔ CloL l ∧ CloL l' := by
  simp only [CloL_iff, List.mem_append]
  exact ⟨fun h => ⟨fun x hx => h x (.inl hx), fun x hx => h x (.inr hx)⟩, fun h x hx => hx.elim (h.1 x) (h.2 x)⟩
@[simp] theorem AllC_append (l l' : List TV) : AllC (l ++ l') ↔ AllC l ∧ AllC l' := by
  unfold AllC
  simp only [List.mem_append]
  exact ⟨fun h => ⟨fun x hx => h x (.inl hx), fun x hx => h x (.inr hx)⟩, fun h x hx => hx.elim (h.1 x) (h.2 x)⟩
@[simp] theorem AllC_nil : AllC [] := fun x hx => by cases hx
@[simp] theorem AllC_cons (x : TV) (l : List TV) : AllC (x :: l) ↔ cellV x = true ∧ AllC l := by simp [AllC]
@[simp] theorem AllB_map_bv (l : List UInt8) : AllB (l.map bv) := ⟨l, rfl⟩
@[simp] theorem unbv_comp_bv : unbv ∘ bv = id := funext fun b => unbv_bv b
attribute [simp] guardE_true guardE_false iteTV_true iteTV_false iteTV_bool
attribute [simp] map_unbv unbv_bv
end Go.Proofs.YtekmhdiajjfgfaaDoor.TL
