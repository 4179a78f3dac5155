/- The row of the law PeerHashes: it holds for every input, if the walk does (it is proved in the texts imported here). No conditions. -/
import Derived.Test.YtnkdkajllmopaaaGreatRows
import Derived.Test.YtnkdkajllmopaaaGreatUPHs
import Derived.Test.YtnkdkajllmopaaaGreatUDecS
import Derived.Test.YtnkdkajllmopaaaGreatTz
import Derived.WalkKit
import Derived.ProofKit
import Derived.OpenShut
import Derived.ChangeOld
import Derived.Below
import Derived.SizedLaws
namespace Go.Proofs.YtnkdkajllmopaaaGreat.peerHashes
open Go.ChangeShapes Go.WideShapes Go.ChangeAt Go.RowKit
open Go.Proofs.YtnkdkajllmopaaaGreat.TL
set_option linter.unusedVariables false
theorem own : ownKnob Tryz.prog.godebug = none := by kernel_rfl
theorem laidOut : laidOutB Tryz.prog = true := by kernel_rfl
set_option maxRecDepth 100000 in
theorem lifted (os : Os) (started : os.Started) (H : Type) (enc : TypeId × Value → H) :
    ReturnsInHanded {} Tryz.checked os 3 .any (Rows.peerHashesSpec.pre6 enc Tryz.prog Tryz.f3 Rows.peerHashesRow.domain false) (Rows.peerHashesSpec.post enc Tryz.prog Tryz.f3 false true false false) := by
  refine returnsInHanded_of_change_sized (C := Tryz.checked) own started (by kernel_rfl) Tryz.func3
    (ChangeSpec.witness6 (enc := enc) (C := Tryz.checked) false ⟨#[], #[.int .i64 0, .slice none 0 0], []⟩ 8 (by kernel_rfl) (by kernel_rfl) (by kernel_rfl) (by kernel_rfl)) ?_
  intro W base args ds gs before hval0 hW hcnd hsz0 _
  have hval : ∀ (j : Nat) t v, Tryz.f3.params[j]? = some t → args[j]? = some v → Value.okWide Tryz.prog W .any base t v := hval0
  have hW' := hW
  obtain ⟨p, q, hA0, hV, rfl, hfz, hnd⟩ := hW
  have hA : DataW.TrodAll enc Tryz.prog W 0 (fun _ => true) true Tryz.f3.params.toList args.toList ds p := hA0
  rw [Tryz.params3] at hA hval
  obtain ⟨v0, vs0, d0, ds0, p0, q0, hargs, rfl, rfl, h0, r0⟩ := trodAll_cons hA
  obtain ⟨v1, vs1, d1, ds1, p1, q1, rfl, rfl, rfl, h1, r1⟩ := trodAll_cons r0
  obtain ⟨rfl, rfl, rfl⟩ := trodAll_nil r1
  obtain rfl : args = #[v0, v1] := by cases args; simp_all
  obtain ⟨rfl, rfl⟩ := trodVars_none hV
  clear hA0 hval0
  rw [Tryz.params3] at hsz0
  have lt0 : ∀ x ∈ p0, x.block < W.heap.size := by obtain ⟨m, hm⟩ := h0; exact DataW.trod_lt m _ _ _ hm
  obtain ⟨c0, s0, R0⟩ := open_param (f := 12) (by kernel_rfl) (by kernel_rfl) (hval 0 3 v0 rfl rfl) h0 (weigh hsz0 (j := 0) (t := 3) rfl rfl)
  obtain ⟨z0, w0, e0⟩ := dec_i64 s0
  rw [e0] at R0
  have lt1 : ∀ x ∈ p1, x.block < W.heap.size := by obtain ⟨m, hm⟩ := h1; exact DataW.trod_lt m _ _ _ hm
  obtain ⟨c1, s1, R1⟩ := open_param (f := 12) (by kernel_rfl) (by kernel_rfl) (hval 1 22 v1 rfl rfl) h1 (weigh hsz0 (j := 1) (t := 22) rfl rfl)
  obtain ⟨z1, w1, e1⟩ := dec_stps s1
  rw [e1] at R1
  refine (callT_world (PeerHashes_T z0 z1 (fun x hx => (w1 x hx).2)) W [v0, v1] rfl (by simp only [RVl]; exact ⟨⟨_, rfl, R0⟩, ⟨⟨_, rfl, R1⟩, trivial⟩⟩)).mono fun e W' ⟨v, he, bel, r, h', E', hr, hv⟩ => ?_
  subst he
  subst hr
  simp only [RV] at hv
  subst hv
  exact ⟨_, rfl, _, _, _, [], _, [], hW', trodAll_mk1 (shut_bool Tryz.underlying4 _), (trodAll_cons_mk (Below.trod laidOut (by kernel_rfl) (of_decide_eq_true (by kernel_rfl)) h0 bel lt0) (trodAll_cons_mk (Below.trod laidOut (by kernel_rfl) (of_decide_eq_true (by kernel_rfl)) h1 bel lt1) trodAll_mk0)), rfl, bel.frame _, fun h => by cases h⟩
theorem over : Rows.peerHashesRow.holds Tryz.pinned (OpenSpec.ofChange Rows.peerHashesSpec) :=
  OpenClaim.holds_of_wide 3 Tryz.f3 rfl rfl rfl rfl rfl rfl rfl ⟨rfl, rfl, rfl, rfl, rfl⟩ rfl rfl rfl rfl rfl (by kernel_rfl) Tryz.func3 (by kernel_rfl)
    (of_decide_eq_true (by kernel_rfl)) (by unfold Func.isWrapper; first | (rw [if_pos (by decide +kernel)]; kernel_rfl) | (rw [if_neg (by decide +kernel)]; exact ⟨rfl, rfl⟩))
    (fun os started H enc _ => lifted os started H enc)
theorem proved : Rows.PeerHashesSaid := over
#print axioms proved
end Go.Proofs.YtnkdkajllmopaaaGreat.peerHashes
namespace Go.Proofs.YtnkdkajllmopaaaGreat
/-- The row, under a short name, for the claim. -/
theorem peerHashes_holds : Rows.PeerHashesSaid := peerHashes.proved
end Go.Proofs.YtnkdkajllmopaaaGreat
