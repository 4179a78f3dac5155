/- The row of the law FoldMay: it holds for every input, if the walk does (it is proved in the texts imported here). No conditions. -/
import Derived.Test.YtgkhedmjkahclaaRows
import Derived.Test.YtgkhedmjkahclaaUFMayL
import Derived.Test.YtgkhedmjkahclaaUDecI
import Derived.Test.YtgkhedmjkahclaaTz
import Derived.WalkKit
import Derived.ProofKit
import Derived.OpenShut
import Derived.ChangeOld
import Derived.Below
import Derived.SizedLaws
namespace Go.Proofs.Ytgkhedmjkahclaa.foldMay
open Go.ChangeShapes Go.WideShapes Go.ChangeAt Go.RowKit
open Go.Proofs.Ytgkhedmjkahclaa.TL
set_option linter.unusedVariables false
theorem own : ownKnob Try.prog.godebug = none := by kernel_rfl
theorem laidOut : laidOutB Try.prog = true := by kernel_rfl
set_option maxRecDepth 100000 in
theorem lifted (os : Os) (started : os.Started) (H : Type) (enc : TypeId × Value → H) :
    ReturnsInHanded {} Try.checked os 5 .any (Rows.foldMaySpec.pre6 enc Try.prog Try.f5 Rows.foldMayRow.domain false) (Rows.foldMaySpec.post enc Try.prog Try.f5 false true false false) := by
  refine returnsInHanded_of_change_sized (C := Try.checked) own started (by kernel_rfl) Try.func5
    (ChangeSpec.witness6 (enc := enc) (C := Try.checked) false ⟨#[], #[.agg #[.slice none 0 0], .slice none 0 0, .int .i64 0, .int .i64 0], []⟩ 8 (by kernel_rfl) (by kernel_rfl) (by kernel_rfl) (by kernel_rfl)) ?_
  intro W base args ds gs before hval0 hW hcnd hsz0 _
  have hval : ∀ (j : Nat) t v, Try.f5.params[j]? = some t → args[j]? = some v → Value.okWide Try.prog W .any base t v := hval0
  have hW' := hW
  obtain ⟨p, q, hA0, hV, rfl, hfz, hnd⟩ := hW
  have hA : DataW.TrodAll enc Try.prog W 0 (fun _ => true) true Try.f5.params.toList args.toList ds p := hA0
  rw [Try.params5] at hA hval
  obtain ⟨v0, vs0, d0, ds0, p0, q0, hargs, rfl, rfl, h0, r0⟩ := trodAll_cons hA
  obtain ⟨v1, vs1, d1, ds1, p1, q1, rfl, rfl, rfl, h1, r1⟩ := trodAll_cons r0
  obtain ⟨v2, vs2, d2, ds2, p2, q2, rfl, rfl, rfl, h2, r2⟩ := trodAll_cons r1
  obtain ⟨v3, vs3, d3, ds3, p3, q3, rfl, rfl, rfl, h3, r3⟩ := trodAll_cons r2
  obtain ⟨rfl, rfl, rfl⟩ := trodAll_nil r3
  obtain rfl : args = #[v0, v1, v2, v3] := by cases args; simp_all
  obtain ⟨rfl, rfl⟩ := trodVars_none hV
  clear hA0 hval0
  rw [Try.params5] at hsz0
  have lt0 : ∀ x ∈ p0, x.block < W.heap.size := by obtain ⟨m, hm⟩ := h0; exact DataW.trod_lt m _ _ _ hm
  obtain ⟨c0, s0, R0⟩ := open_param (f := 12) (by kernel_rfl) (by kernel_rfl) (hval 0 31 v0 rfl rfl) h0 (weigh hsz0 (j := 0) (t := 31) rfl rfl)
  obtain ⟨z0, w0, e0⟩ := dec_img s0
  rw [e0] at R0
  have lt1 : ∀ x ∈ p1, x.block < W.heap.size := by obtain ⟨m, hm⟩ := h1; exact DataW.trod_lt m _ _ _ hm
  obtain ⟨c1, s1, R1⟩ := open_param (f := 12) (by kernel_rfl) (by kernel_rfl) (hval 1 22 v1 rfl rfl) h1 (weigh hsz0 (j := 1) (t := 22) rfl rfl)
  obtain ⟨z1, w1, e1⟩ := dec_ints s1
  rw [e1] at R1
  have lt2 : ∀ x ∈ p2, x.block < W.heap.size := by obtain ⟨m, hm⟩ := h2; exact DataW.trod_lt m _ _ _ hm
  obtain ⟨c2, s2, R2⟩ := open_param (f := 12) (by kernel_rfl) (by kernel_rfl) (hval 2 3 v2 rfl rfl) h2 (weigh hsz0 (j := 2) (t := 3) rfl rfl)
  obtain ⟨z2, w2, e2⟩ := dec_i64 s2
  rw [e2] at R2
  have lt3 : ∀ x ∈ p3, x.block < W.heap.size := by obtain ⟨m, hm⟩ := h3; exact DataW.trod_lt m _ _ _ hm
  obtain ⟨c3, s3, R3⟩ := open_param (f := 12) (by kernel_rfl) (by kernel_rfl) (hval 3 3 v3 rfl rfl) h3 (weigh hsz0 (j := 3) (t := 3) rfl rfl)
  obtain ⟨z3, w3, e3⟩ := dec_i64 s3
  rw [e3] at R3
  refine (callT_world (FoldMay_T z0 z1 z2 z3 w1) W [v0, v1, v2, v3] rfl (by simp only [RVl]; exact ⟨⟨_, rfl, R0⟩, ⟨⟨_, rfl, R1⟩, ⟨⟨_, rfl, R2⟩, ⟨⟨_, rfl, R3⟩, trivial⟩⟩⟩⟩)).mono fun e W' ⟨v, he, bel, r, h', E', hr, hv⟩ => ?_
  subst he
  subst hr
  simp only [RV] at hv
  subst hv
  exact ⟨_, rfl, _, _, _, [], _, [], hW', trodAll_mk1 (shut_bool Try.underlying4 _), (trodAll_cons_mk (Below.trod laidOut (by kernel_rfl) (of_decide_eq_true (by kernel_rfl)) h0 bel lt0) (trodAll_cons_mk (Below.trod laidOut (by kernel_rfl) (of_decide_eq_true (by kernel_rfl)) h1 bel lt1) (trodAll_cons_mk (Below.trod laidOut (by kernel_rfl) (of_decide_eq_true (by kernel_rfl)) h2 bel lt2) (trodAll_cons_mk (Below.trod laidOut (by kernel_rfl) (of_decide_eq_true (by kernel_rfl)) h3 bel lt3) trodAll_mk0)))), rfl, bel.frame _, fun h => by cases h⟩
theorem over : Rows.foldMayRow.holds Try.pinned (OpenSpec.ofChange Rows.foldMaySpec) :=
  OpenClaim.holds_of_wide 5 Try.f5 rfl rfl rfl rfl rfl rfl rfl ⟨rfl, rfl, rfl, rfl, rfl⟩ rfl rfl rfl rfl rfl (by kernel_rfl) Try.func5 (by kernel_rfl)
    (of_decide_eq_true (by kernel_rfl)) (by unfold Func.isWrapper; first | (rw [if_pos (by decide +kernel)]; kernel_rfl) | (rw [if_neg (by decide +kernel)]; exact ⟨rfl, rfl⟩))
    (fun os started H enc _ => lifted os started H enc)
theorem proved : Rows.FoldMaySaid := over
#print axioms proved
end Go.Proofs.Ytgkhedmjkahclaa.foldMay
namespace Go.Proofs.Ytgkhedmjkahclaa
/-- The row, under a short name, for the claim. -/
theorem foldMay_holds : Rows.FoldMaySaid := foldMay.proved
end Go.Proofs.Ytgkhedmjkahclaa
