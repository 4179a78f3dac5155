/- Written by a program for this claim (see NOTES.md of the claims' repo). Mirrors, as plain Lean functions, of Go functions that the law OrderTexts reaches, and proofs that the calls come to what these say. No conditions. -/
import Derived.Test.YtfhckddfmlljfaaQOrderTextsx0
import Derived.Test.YtfhckddfmlljfaaQOrderTextsx1
import Derived.Test.YtfhckddfmlljfaaQOrderTextsx3
namespace Go.Proofs.Ytfhckddfmlljfaa.QOrderTexts
open Go.RowKit Go.Proofs.YtfhckddfmlljfaaW.PrintWords Go.Proofs.YtfhckddfmlljfaaW.PrintLast Go.Proofs.YtfhckddfmlljfaaW.PrintMore
attribute [local go_sem] max2_int min2_int max_two min_two max_three min_three max_four min_four   -- for this text's walks alone
set_option linter.unusedVariables false
set_option linter.unusedSimpArgs false

attribute [local go_sem high] eqA44 eqA77
/-! ### cotillionlaw09_Tidy: function 22 -/
mutual
def cotillionlaw09_Tidy.l0 : Nat → List (S44) → List (S44) → Int → Option ((List (S44)))
  | 0, _, _, _ => none
  | k + 1, x0, x3, x4 => if x4 < (x0.length : Int) then (cotillionlaw09_Tidy.j1 k x0 x3 x4 (decide (x4 < 8))) else (cotillionlaw09_Tidy.j1 k x0 x3 x4 false)
def cotillionlaw09_Tidy.j1 : Nat → List (S44) → List (S44) → Int → Bool → Option ((List (S44)))
  | 0, _, _, _, _ => none
  | k + 1, x0, x3, x4, x13 => if x13 = true then (if 0 ≤ x4 then (if x4 < (x0.length : Int) then (if (wrap64 (1 + (Int.tmod (Go.bits .and .i64 ((rd_T44 x0 x4).f0) 255) 4))) = 2 then (if x3.length < 4398046511104 then (cotillionlaw09_Tidy.l0 k x0 (x3 ++ [(⟨wrap64 (1 + (Int.tmod (Go.bits .and .i64 ((rd_T44 x0 x4).f0) 255) 4)), wrap64 (1 + (Go.bits .and .i64 ((rd_T44 x0 x4).f1) 63)), wrap64 (1 + (Go.bits .and .i64 ((rd_T44 x0 x4).f2) 127)), 0⟩ : S44)]) (wrap64 (x4 + 1))) else (none)) else (if (wrap64 (1 + (Int.tmod (Go.bits .and .i64 ((rd_T44 x0 x4).f0) 255) 4))) = 3 then (if x3.length < 4398046511104 then (cotillionlaw09_Tidy.l0 k x0 (x3 ++ [(⟨wrap64 (1 + (Int.tmod (Go.bits .and .i64 ((rd_T44 x0 x4).f0) 255) 4)), 0, wrap64 (1 + (Go.bits .and .i64 ((rd_T44 x0 x4).f2) 127)), Go.bits .and .i64 ((rd_T44 x0 x4).f3) 127⟩ : S44)]) (wrap64 (x4 + 1))) else (none)) else (if (wrap64 (1 + (Int.tmod (Go.bits .and .i64 ((rd_T44 x0 x4).f0) 255) 4))) = 4 then (if x3.length < 4398046511104 then (cotillionlaw09_Tidy.l0 k x0 (x3 ++ [(⟨wrap64 (1 + (Int.tmod (Go.bits .and .i64 ((rd_T44 x0 x4).f0) 255) 4)), wrap64 (1 + (Go.bits .and .i64 ((rd_T44 x0 x4).f1) 63)), 0, 0⟩ : S44)]) (wrap64 (x4 + 1))) else (none)) else (if x3.length < 4398046511104 then (cotillionlaw09_Tidy.l0 k x0 (x3 ++ [(⟨wrap64 (1 + (Int.tmod (Go.bits .and .i64 ((rd_T44 x0 x4).f0) 255) 4)), wrap64 (1 + (Go.bits .and .i64 ((rd_T44 x0 x4).f1) 63)), wrap64 (1 + (Go.bits .and .i64 ((rd_T44 x0 x4).f2) 127)), Go.bits .and .i64 ((rd_T44 x0 x4).f3) 127⟩ : S44)]) (wrap64 (x4 + 1))) else (none))))) else (none)) else (none)) else (some x3)
end
def cotillionlaw09_Tidy.f (k : Nat) (l0 : List (S44)) : Option ((List (S44))) := cotillionlaw09_Tidy.l0 k l0 ([] : List (S44)) 0
theorem cotillionlaw09_Tidy.mono_l : ∀ k, (∀ y0 y1 y2, LeO (cotillionlaw09_Tidy.l0 k y0 y1 y2) (cotillionlaw09_Tidy.l0 (k + 1) y0 y1 y2)) ∧ (∀ y0 y1 y2 y3, LeO (cotillionlaw09_Tidy.j1 k y0 y1 y2 y3) (cotillionlaw09_Tidy.j1 (k + 1) y0 y1 y2 y3))
  | 0 => ⟨fun _ _ _ r h => by simp [cotillionlaw09_Tidy.l0] at h, fun _ _ _ _ r h => by simp [cotillionlaw09_Tidy.j1] at h⟩
  | k + 1 => by
    obtain ⟨ih0, ih1⟩ := cotillionlaw09_Tidy.mono_l k
    refine ⟨?_, ?_⟩
    · intro y0 y1 y2
      unfold cotillionlaw09_Tidy.l0
      repeat' first
      | (with_reducible exact ih0 _ _ _)
      | (with_reducible exact ih1 _ _ _ _)
      | (with_reducible exact LeO.refl _)
      | (with_reducible exact LeO.none _)
      | (with_reducible refine LeO.ite ?_ ?_)
      | (with_reducible refine LeO.bind ?_ (fun _ => ?_))
      | exact ih0 _ _ _
      | exact ih1 _ _ _ _
      | exact LeO.none _
      | refine LeO.ite ?_ ?_
      | refine LeO.bind ?_ (fun _ => ?_)
    · intro y0 y1 y2 y3
      unfold cotillionlaw09_Tidy.j1
      repeat' first
      | (with_reducible exact ih0 _ _ _)
      | (with_reducible exact ih1 _ _ _ _)
      | (with_reducible exact LeO.refl _)
      | (with_reducible exact LeO.none _)
      | (with_reducible refine LeO.ite ?_ ?_)
      | (with_reducible refine LeO.bind ?_ (fun _ => ?_))
      | exact ih0 _ _ _
      | exact ih1 _ _ _ _
      | exact LeO.none _
      | refine LeO.ite ?_ ?_
      | refine LeO.bind ?_ (fun _ => ?_)
theorem cotillionlaw09_Tidy.mono : ∀ a0 k, LeO (cotillionlaw09_Tidy.f k a0) (cotillionlaw09_Tidy.f (k + 1) a0) := by
  intro a0 k
  obtain ⟨ih0, ih1⟩ := cotillionlaw09_Tidy.mono_l k
  unfold cotillionlaw09_Tidy.f
  repeat' first
      | (with_reducible exact ih0 _ _ _)
      | (with_reducible exact ih1 _ _ _ _)
      | (with_reducible exact LeO.refl _)
      | (with_reducible exact LeO.none _)
      | (with_reducible refine LeO.ite ?_ ?_)
      | (with_reducible refine LeO.bind ?_ (fun _ => ?_))
      | exact ih0 _ _ _
      | exact ih1 _ _ _ _
      | exact LeO.none _
      | refine LeO.ite ?_ ?_
      | refine LeO.bind ?_ (fun _ => ?_)
set_option maxHeartbeats 8000000 in
set_option maxRecDepth 100000 in
theorem cotillionlaw09_Tidy.calls (k : Nat) (A0 : Option Addr) (c0 : Nat) (l0 : List (S44)) (r : List (S44)) (w : World) (hr0 : Kd.C k44 w A0 l0.length l0) (hc0 : l0.length ≤ c0) (h : cotillionlaw09_Tidy.f k l0 = some r) :
    Calls Try.prog 22 #[.slice A0 l0.length c0] w fun e w' => ∃ v0_ : Value, e = .returned (v0_) ∧ Kd.R k44 44 w' w.heap.size (fun _ => True) v0_ r ∧ Below w.heap.size w w' := by
  have hu44 := Try.underlying44
  have HR0 := Aside0.mk hr0
  have HC0 := Aside0.mk hc0
  clear hr0 hc0
  have HB := Aside0.mk (Below.refl w.heap.size w)
  have H : (cotillionlaw09_Tidy.l0 k l0 ([] : List (S44)) 0) = some r := h
  clear h
  have H' := Aside0.mk H
  clear H
  go_enter Try.func22, Try.ntmps22
  go_wp2
  go_loopg [3, 4] k (fun kq v3 v4 w' => ∃ (x3_1 : List (S44)) (x4_1 : Int), v4 = .int .i64 x4_1 ∧ Aside0 (cotillionlaw09_Tidy.l0 kq l0 x3_1 x4_1 = some r) ∧ Aside0 (kq ≤ k) ∧ Aside0 (Kd.R k44 44 w' w.heap.size (fun _ => True) v3 x3_1) ∧ Aside0 (Below w.heap.size w w'))
  case atStart => exact ⟨(([] : List (S44))), (0), (by first | rfl | (simp; done) | (simp [*]; done)), H', ⟨Nat.le_refl _⟩, ⟨by first | exact Kd.R_nil _ _ _ _ _ | exact Kd.N_nil _ _ _ _ _ | exact Kd.V_nil _ _ _ _ _ | exact Kd.Q_nil _ _ _ _ _ | exact Kd.S_nil _ _ _ _ _⟩, ⟨by repeat (first | (with_reducible first | exact HB.out | apply below_alloc | apply pw_below_drewN | apply below_drew1) | exact HB.out)⟩⟩
  case round =>
    clear H'
    obtain ⟨x3_1, x4_1, rfl, HA, HK1, HO_3, HB⟩ := hrel
    cases gk with
    | zero => exact absurd HA.out (by simp [cotillionlaw09_Tidy.l0])
    | succ k1 =>
      have H := HA.out
      clear HA
      simp only [cotillionlaw09_Tidy.l0] at H
      have HC2 := Aside0.mk H
      clear H
      go_upto_region 3 with (fail)
      go_cut [13] (fun v13 wc => ∃ (kq : Nat) (x13_1 : Bool), v13 = .bool x13_1 ∧ Aside0 (cotillionlaw09_Tidy.j1 kq l0 x3_1 x4_1 x13_1 = some r) ∧ Aside0 (kq ≤ k1) ∧ Aside0 (Kd.R k44 44 wc w.heap.size (fun _ => True) u3 x3_1) ∧ Aside0 (Below w.heap.size w wc))
      case first =>
        have H := HC2.out
        clear HC2
        by_cases c3 : x4_1 < (l0.length : Int)
        · rw [if_pos c3] at H
          have c3b0 : decide (x4_1 < (l0.length : Int)) = true := decide_eq_true c3
          clear c3
          (first | rw [c3b0] | (simp only [i64_w, i32_w]; rw [c3b0]) | skip)
          have H' := Aside0.mk H
          clear H
          go_wp2
          go_meet
          case rel => exact ⟨_, (decide (x4_1 < 8)), (by first | rfl | (simp; done) | (simp [*]; done)), H', ⟨by have := HK1.out; first | omega | exact Nat.le_refl _⟩, ⟨by (with_reducible repeat (first | apply Kd.R_alloc | apply Kd.R_drewN | apply Kd.R_drew)); exact HO_3.out⟩, ⟨by repeat (first | (with_reducible first | exact HB.out | apply below_alloc | apply pw_below_drewN | apply below_drew1) | exact HB.out)⟩⟩
        · rw [if_neg c3] at H
          have c3b0 : decide (x4_1 < (l0.length : Int)) = false := decide_eq_false c3
          clear c3
          (first | rw [c3b0] | (simp only [i64_w, i32_w]; rw [c3b0]) | skip)
          have H' := Aside0.mk H
          clear H
          go_wp2
          go_meet
          case rel => exact ⟨_, (false), (by first | rfl | (simp; done) | (simp [*]; done)), H', ⟨by have := HK1.out; first | omega | exact Nat.le_refl _⟩, ⟨by (with_reducible repeat (first | apply Kd.R_alloc | apply Kd.R_drewN | apply Kd.R_drew)); exact HO_3.out⟩, ⟨by repeat (first | (with_reducible first | exact HB.out | apply below_alloc | apply pw_below_drewN | apply below_drew1) | exact HB.out)⟩⟩
      case rest =>
        clear HC2
        try clear c2
        try clear p2
        try clear c3
        try clear c3b0
        obtain ⟨kq, x13_1, rfl, HA, HJ1, HO_3, HB⟩ := hcut
        cases kq with
        | zero => exact absurd HA.out (by simp [cotillionlaw09_Tidy.j1])
        | succ kj1 =>
          have H := HA.out
          clear HA
          simp only [cotillionlaw09_Tidy.j1] at H
          by_cases c4 : x13_1 = true
          · subst c4
            have H1 : (if 0 ≤ x4_1 then (if x4_1 < (l0.length : Int) then (if (wrap64 (1 + (Int.tmod (Go.bits .and .i64 ((rd_T44 l0 x4_1).f0) 255) 4))) = 2 then (if x3_1.length < 4398046511104 then (cotillionlaw09_Tidy.l0 kj1 l0 (x3_1 ++ [(⟨wrap64 (1 + (Int.tmod (Go.bits .and .i64 ((rd_T44 l0 x4_1).f0) 255) 4)), wrap64 (1 + (Go.bits .and .i64 ((rd_T44 l0 x4_1).f1) 63)), wrap64 (1 + (Go.bits .and .i64 ((rd_T44 l0 x4_1).f2) 127)), 0⟩ : S44)]) (wrap64 (x4_1 + 1))) else (none)) else (if (wrap64 (1 + (Int.tmod (Go.bits .and .i64 ((rd_T44 l0 x4_1).f0) 255) 4))) = 3 then (if x3_1.length < 4398046511104 then (cotillionlaw09_Tidy.l0 kj1 l0 (x3_1 ++ [(⟨wrap64 (1 + (Int.tmod (Go.bits .and .i64 ((rd_T44 l0 x4_1).f0) 255) 4)), 0, wrap64 (1 + (Go.bits .and .i64 ((rd_T44 l0 x4_1).f2) 127)), Go.bits .and .i64 ((rd_T44 l0 x4_1).f3) 127⟩ : S44)]) (wrap64 (x4_1 + 1))) else (none)) else (if (wrap64 (1 + (Int.tmod (Go.bits .and .i64 ((rd_T44 l0 x4_1).f0) 255) 4))) = 4 then (if x3_1.length < 4398046511104 then (cotillionlaw09_Tidy.l0 kj1 l0 (x3_1 ++ [(⟨wrap64 (1 + (Int.tmod (Go.bits .and .i64 ((rd_T44 l0 x4_1).f0) 255) 4)), wrap64 (1 + (Go.bits .and .i64 ((rd_T44 l0 x4_1).f1) 63)), 0, 0⟩ : S44)]) (wrap64 (x4_1 + 1))) else (none)) else (if x3_1.length < 4398046511104 then (cotillionlaw09_Tidy.l0 kj1 l0 (x3_1 ++ [(⟨wrap64 (1 + (Int.tmod (Go.bits .and .i64 ((rd_T44 l0 x4_1).f0) 255) 4)), wrap64 (1 + (Go.bits .and .i64 ((rd_T44 l0 x4_1).f1) 63)), wrap64 (1 + (Go.bits .and .i64 ((rd_T44 l0 x4_1).f2) 127)), Go.bits .and .i64 ((rd_T44 l0 x4_1).f3) 127⟩ : S44)]) (wrap64 (x4_1 + 1))) else (none))))) else (none)) else (none)) = some r := by rw [if_pos rfl] at H; exact H
            clear H
            have H := H1
            clear H1
            by_cases c5 : 0 ≤ x4_1
            · rw [if_pos c5] at H
              have c5b0 : decide (0 ≤ x4_1) = true := decide_eq_true c5
              clear c5
              by_cases c6 : x4_1 < (l0.length : Int)
              · rw [if_pos c6] at H
                have c6b0 : decide (x4_1 < (l0.length : Int)) = true := decide_eq_true c6
                clear c6
                by_cases c7 : (wrap64 (1 + (Int.tmod (Go.bits .and .i64 ((rd_T44 l0 x4_1).f0) 255) 4))) = 2
                · rw [if_pos c7] at H
                  have c7b0 : ((wrap64 (1 + (Int.tmod (Go.bits .and .i64 ((rd_T44 l0 x4_1).f0) 255) 4))) == 2) = true := beq_iff_eq.mpr c7
                  have c7b1 : ((wrap64 (1 + (Int.tmod (Go.bits .and .i64 ((rd_T44 l0 x4_1).f0) 255) 4))) != 2) = false := bne_eq_false_iff_eq.mpr c7
                  clear c7
                  by_cases c8 : x3_1.length < 4398046511104
                  · rw [if_pos c8] at H
                    have LMc8 := Aside0.mk c8
                    clear c8
                    obtain ⟨y194, hy194⟩ : ∃ y_ : List (S44), y_ = (x3_1 ++ [(⟨wrap64 (1 + (Int.tmod (Go.bits .and .i64 ((rd_T44 l0 x4_1).f0) 255) 4)), wrap64 (1 + (Go.bits .and .i64 ((rd_T44 l0 x4_1).f1) 63)), wrap64 (1 + (Go.bits .and .i64 ((rd_T44 l0 x4_1).f2) 127)), 0⟩ : S44)]) := ⟨_, rfl⟩
                    replace H : (cotillionlaw09_Tidy.l0 kj1 l0 y194 (wrap64 (x4_1 + 1))) = some r := by first | (rw [hy194]; with_reducible exact H) | (have H2_ := (Option.bind_some _ _).symm.trans H; rw [hy194]; with_reducible exact H2_) | (have H2_ := (Option.bind_some _ _).symm.trans H; with_reducible exact H2_) | with_reducible exact H | (rw [hy194]; exact H) | exact H
                    have Ny194 := Aside0.mk hy194
                    clear hy194
                    have H' := Aside0.mk H
                    clear H
                    have p192 : 0 ≤ (x4_1 : Int) := of_decide_eq_true (by first | (with_reducible assumption) | assumption)
                    have q192 : x4_1 < (l0.length : Int) := of_decide_eq_true (by first | (with_reducible assumption) | assumption)
                    obtain ⟨ad192, e192, hx192_0, hx192_1, hx192_2, hx192_3⟩ := at_T44 HR0.out x4_1 p192 q192
                    cases e192
                    replace hx192_0 := (HB.out.cell (World.block_lt_of_cell? w _ hx192_0)).trans hx192_0
                    replace hx192_1 := (HB.out.cell (World.block_lt_of_cell? w _ hx192_1)).trans hx192_1
                    replace hx192_2 := (HB.out.cell (World.block_lt_of_cell? w _ hx192_2)).trans hx192_2
                    replace hx192_3 := (HB.out.cell (World.block_lt_of_cell? w _ hx192_3)).trans hx192_3
                    replace p192 := eq_true p192
                    replace q192 := eq_true q192
                    go_upto_region 9 with (first | ((with_reducible refine gate_dst (N := 5) rfl ?_); refine box_event ?hg (N := 5) ?hd (cs := #[.int .i64 0, .int .i64 0, .int .i64 0, .int .i64 0]) (t := 44) ?hr ?_; (case hd => rfl); (case hg => rfl); (case hr => first | (go_simp; done) | (go_simp; rfl)); intro gb193 hg w9 hbox hb; have n0_ := Aside0.mk (Kd.R_below (Kd.R_elderB (by (with_reducible repeat (first | apply Kd.R_alloc | apply Kd.R_drewN | apply Kd.R_drew)); exact HO_3.out) gb193 (Nat.le_of_eq hg.symm)) hb); have n1_ := Aside0.mk (below_step (by repeat (first | (with_reducible first | exact HB.out | apply below_alloc | apply pw_below_drewN | apply below_drew1) | exact HB.out)) hb); have n2_ := Aside0.mk (hbox); have n3_ := Aside0.mk ((by rw [hg]; exact (below_size (by repeat (first | (with_reducible first | exact HB.out | apply below_alloc | apply pw_below_drewN | apply below_drew1) | exact HB.out))) : w.heap.size ≤ gb193)); have n4_ := Aside0.mk ((by rw [hg]; exact (below_size (by repeat (first | (with_reducible first | exact HB.out | apply below_alloc | apply pw_below_drewN | apply below_drew1) | exact HB.out))) : w.heap.size ≤ gb193)); clear HO_3; clear HB; have HO_3 := n0_; have HB := n1_; have BK193 := n2_; have GW193 := n3_; have GE193 := n4_; clear n0_ n1_ n2_ n3_ n4_; clear hb hbox hg; have hcz10_0 : w9.cell? ⟨gb193, 0, none⟩ = some (.int .i64 0) := (blk_cell BK193.out 0).trans rfl; have hcz10_1 : w9.cell? ⟨gb193, 1, none⟩ = some (.int .i64 0) := (blk_cell BK193.out 1).trans rfl; have hcz10_2 : w9.cell? ⟨gb193, 2, none⟩ = some (.int .i64 0) := (blk_cell BK193.out 2).trans rfl; have hcz10_3 : w9.cell? ⟨gb193, 3, none⟩ = some (.int .i64 0) := (blk_cell BK193.out 3).trans rfl; have hfz10_0 := blk_frozen BK193.out 0; have hfz10_1 := blk_frozen BK193.out 1; have hfz10_2 := blk_frozen BK193.out 2; have hfz10_3 := blk_frozen BK193.out 3))
                    have t0_ := (blk_put (cs' := #[.int .i64 (wrap64 (1 + (Int.tmod (Go.bits .and .i64 ((rd_T44 l0 x4_1).f0) 255) 4))), .int .i64 (wrap64 (1 + (Go.bits .and .i64 ((rd_T44 l0 x4_1).f1) 63))), .int .i64 (wrap64 (1 + (Go.bits .and .i64 ((rd_T44 l0 x4_1).f2) 127))), .int .i64 (Go.bits .and .i64 ((rd_T44 l0 x4_1).f3) 127)]) (blk_put (cs' := #[.int .i64 (wrap64 (1 + (Int.tmod (Go.bits .and .i64 ((rd_T44 l0 x4_1).f0) 255) 4))), .int .i64 (wrap64 (1 + (Go.bits .and .i64 ((rd_T44 l0 x4_1).f1) 63))), .int .i64 (wrap64 (1 + (Go.bits .and .i64 ((rd_T44 l0 x4_1).f2) 127))), .int .i64 ((rd_T44 l0 x4_1).f3)]) (blk_put (cs' := #[.int .i64 (wrap64 (1 + (Int.tmod (Go.bits .and .i64 ((rd_T44 l0 x4_1).f0) 255) 4))), .int .i64 (wrap64 (1 + (Go.bits .and .i64 ((rd_T44 l0 x4_1).f1) 63))), .int .i64 ((rd_T44 l0 x4_1).f2), .int .i64 ((rd_T44 l0 x4_1).f3)]) (blk_put (cs' := #[.int .i64 (wrap64 (1 + (Int.tmod (Go.bits .and .i64 ((rd_T44 l0 x4_1).f0) 255) 4))), .int .i64 ((rd_T44 l0 x4_1).f1), .int .i64 ((rd_T44 l0 x4_1).f2), .int .i64 ((rd_T44 l0 x4_1).f3)]) (blk_put (cs' := #[.int .i64 ((rd_T44 l0 x4_1).f0), .int .i64 ((rd_T44 l0 x4_1).f1), .int .i64 ((rd_T44 l0 x4_1).f2), .int .i64 ((rd_T44 l0 x4_1).f3)]) (blk_put (cs' := #[.int .i64 ((rd_T44 l0 x4_1).f0), .int .i64 ((rd_T44 l0 x4_1).f1), .int .i64 ((rd_T44 l0 x4_1).f2), .int .i64 (0)]) (blk_put (cs' := #[.int .i64 ((rd_T44 l0 x4_1).f0), .int .i64 ((rd_T44 l0 x4_1).f1), .int .i64 (0), .int .i64 (0)]) (blk_put (cs' := #[.int .i64 ((rd_T44 l0 x4_1).f0), .int .i64 (0), .int .i64 (0), .int .i64 (0)]) BK193.out 0 (.int .i64 ((rd_T44 l0 x4_1).f0)) rfl) 1 (.int .i64 ((rd_T44 l0 x4_1).f1)) rfl) 2 (.int .i64 ((rd_T44 l0 x4_1).f2)) rfl) 3 (.int .i64 ((rd_T44 l0 x4_1).f3)) rfl) 0 (.int .i64 (wrap64 (1 + (Int.tmod (Go.bits .and .i64 ((rd_T44 l0 x4_1).f0) 255) 4)))) rfl) 1 (.int .i64 (wrap64 (1 + (Go.bits .and .i64 ((rd_T44 l0 x4_1).f1) 63)))) rfl) 2 (.int .i64 (wrap64 (1 + (Go.bits .and .i64 ((rd_T44 l0 x4_1).f2) 127)))) rfl) 3 (.int .i64 (Go.bits .and .i64 ((rd_T44 l0 x4_1).f3) 127)) rfl)
                    have t1_ := (Kd.R_far (p := ⟨gb193, 3, none⟩) (Kd.R_far (p := ⟨gb193, 2, none⟩) (Kd.R_far (p := ⟨gb193, 1, none⟩) (Kd.R_far (p := ⟨gb193, 0, none⟩) (Kd.R_far (p := ⟨gb193, 3, none⟩) (Kd.R_far (p := ⟨gb193, 2, none⟩) (Kd.R_far (p := ⟨gb193, 1, none⟩) (Kd.R_far (p := ⟨gb193, 0, none⟩) HO_3.out (fun _ hk => hk.2) (.int .i64 ((rd_T44 l0 x4_1).f0))) (fun _ hk => hk.2) (.int .i64 ((rd_T44 l0 x4_1).f1))) (fun _ hk => hk.2) (.int .i64 ((rd_T44 l0 x4_1).f2))) (fun _ hk => hk.2) (.int .i64 ((rd_T44 l0 x4_1).f3))) (fun _ hk => hk.2) (.int .i64 (wrap64 (1 + (Int.tmod (Go.bits .and .i64 ((rd_T44 l0 x4_1).f0) 255) 4))))) (fun _ hk => hk.2) (.int .i64 (wrap64 (1 + (Go.bits .and .i64 ((rd_T44 l0 x4_1).f1) 63))))) (fun _ hk => hk.2) (.int .i64 (wrap64 (1 + (Go.bits .and .i64 ((rd_T44 l0 x4_1).f2) 127))))) (fun _ hk => hk.2) (.int .i64 (Go.bits .and .i64 ((rd_T44 l0 x4_1).f3) 127)))
                    have t2_ := (below_set (j := 3) (v := (.int .i64 (Go.bits .and .i64 ((rd_T44 l0 x4_1).f3) 127))) (below_set (j := 2) (v := (.int .i64 (wrap64 (1 + (Go.bits .and .i64 ((rd_T44 l0 x4_1).f2) 127))))) (below_set (j := 1) (v := (.int .i64 (wrap64 (1 + (Go.bits .and .i64 ((rd_T44 l0 x4_1).f1) 63))))) (below_set (j := 0) (v := (.int .i64 (wrap64 (1 + (Int.tmod (Go.bits .and .i64 ((rd_T44 l0 x4_1).f0) 255) 4))))) (below_set (j := 3) (v := (.int .i64 ((rd_T44 l0 x4_1).f3))) (below_set (j := 2) (v := (.int .i64 ((rd_T44 l0 x4_1).f2))) (below_set (j := 1) (v := (.int .i64 ((rd_T44 l0 x4_1).f1))) (below_set (j := 0) (v := (.int .i64 ((rd_T44 l0 x4_1).f0))) HB.out GE193.out) GE193.out) GE193.out) GE193.out) GE193.out) GE193.out) GE193.out) GE193.out)
                    generalize hWc_ : ((((((((w9.setCell ⟨gb193, 0, none⟩ (.int .i64 ((rd_T44 l0 x4_1).f0))).setCell ⟨gb193, 1, none⟩ (.int .i64 ((rd_T44 l0 x4_1).f1))).setCell ⟨gb193, 2, none⟩ (.int .i64 ((rd_T44 l0 x4_1).f2))).setCell ⟨gb193, 3, none⟩ (.int .i64 ((rd_T44 l0 x4_1).f3))).setCell ⟨gb193, 0, none⟩ (.int .i64 (wrap64 (1 + (Int.tmod (Go.bits .and .i64 ((rd_T44 l0 x4_1).f0) 255) 4))))).setCell ⟨gb193, 1, none⟩ (.int .i64 (wrap64 (1 + (Go.bits .and .i64 ((rd_T44 l0 x4_1).f1) 63))))).setCell ⟨gb193, 2, none⟩ (.int .i64 (wrap64 (1 + (Go.bits .and .i64 ((rd_T44 l0 x4_1).f2) 127))))).setCell ⟨gb193, 3, none⟩ (.int .i64 (Go.bits .and .i64 ((rd_T44 l0 x4_1).f3) 127))) = wc193 at *
                    have n0_ := Aside0.mk t0_
                    have n1_ := Aside0.mk t1_
                    have n2_ := Aside0.mk t2_
                    clear t0_ t1_ t2_ hWc_ BK193 HB HO_3
                    (try clear hcz10_0 hfz10_0 hcz10_1 hfz10_1 hcz10_2 hfz10_2 hcz10_3 hfz10_3)
                    have BK193 := n0_
                    have HO_3 := n1_
                    have HB := n2_
                    clear n0_ n1_ n2_
                    have hcy_0 : wc193.cell? ⟨gb193, 0, none⟩ = some (.int .i64 (wrap64 (1 + (Int.tmod (Go.bits .and .i64 ((rd_T44 l0 x4_1).f0) 255) 4)))) := (blk_cell BK193.out 0).trans rfl
                    have hfy_0 := blk_frozen BK193.out 0
                    have hcy_1 : wc193.cell? ⟨gb193, 1, none⟩ = some (.int .i64 (wrap64 (1 + (Go.bits .and .i64 ((rd_T44 l0 x4_1).f1) 63)))) := (blk_cell BK193.out 1).trans rfl
                    have hfy_1 := blk_frozen BK193.out 1
                    have hcy_2 : wc193.cell? ⟨gb193, 2, none⟩ = some (.int .i64 (wrap64 (1 + (Go.bits .and .i64 ((rd_T44 l0 x4_1).f2) 127)))) := (blk_cell BK193.out 2).trans rfl
                    have hfy_2 := blk_frozen BK193.out 2
                    have hcy_3 : wc193.cell? ⟨gb193, 3, none⟩ = some (.int .i64 (Go.bits .and .i64 ((rd_T44 l0 x4_1).f3) 127)) := (blk_cell BK193.out 3).trans rfl
                    have hfy_3 := blk_frozen BK193.out 3
                    go_wp2_with (first | ((with_reducible refine gate_builtin (b := .append) (xs := #[.tmp 52, .tmp 54]) rfl ?_); at_builtin; refine Kd.R_append k44 (w0 := w) w.heap.size rfl (.tmp 52) (.tmp 54) 41 44 (.agg #[(.int .i64 0), (.int .i64 0), (.int .i64 0), (.int .i64 0)]) 32 rfl Try.underlying41 info44 rfl (by decide) (by omega) u3 x3_1 (⟨wrap64 (1 + (Int.tmod (Go.bits .and .i64 ((rd_T44 l0 x4_1).f0) 255) 4)), wrap64 (1 + (Go.bits .and .i64 ((rd_T44 l0 x4_1).f1) 63)), wrap64 (1 + (Go.bits .and .i64 ((rd_T44 l0 x4_1).f2) 127)), 0⟩ : S44) [.int .i64 (wrap64 (1 + (Int.tmod (Go.bits .and .i64 ((rd_T44 l0 x4_1).f0) 255) 4))), .int .i64 (wrap64 (1 + (Go.bits .and .i64 ((rd_T44 l0 x4_1).f1) 63))), .int .i64 (wrap64 (1 + (Go.bits .and .i64 ((rd_T44 l0 x4_1).f2) 127))), .int .i64 0] (fun k_ => k_ ≠ gb193) (fun _ => False) rfl (by first | (go_simp; done) | (go_simp; rfl)) ?aP (fun _ hk => hk.elim) ?aF ?aO ?aB ?aS ?aL ?_; (case aP => exact k44_mkM _ _ _ (⟨wrap64 (1 + (Int.tmod (Go.bits .and .i64 ((rd_T44 l0 x4_1).f0) 255) 4)), wrap64 (1 + (Go.bits .and .i64 ((rd_T44 l0 x4_1).f1) 63)), wrap64 (1 + (Go.bits .and .i64 ((rd_T44 l0 x4_1).f2) 127)), 0⟩ : S44)); (case aB => exact (by repeat (first | (with_reducible first | exact HB.out | apply below_alloc | apply pw_below_drewN | apply below_drew1 | refine below_set ?_ GE193.out) | exact HB.out))); (case aF => exact (fun k_ hk => Kd.freshB (g := gb193) (o := .cells #[.int .i64 (wrap64 (1 + (Int.tmod (Go.bits .and .i64 ((rd_T44 l0 x4_1).f0) 255) 4))), .int .i64 (wrap64 (1 + (Go.bits .and .i64 ((rd_T44 l0 x4_1).f1) 63))), .int .i64 (wrap64 (1 + (Go.bits .and .i64 ((rd_T44 l0 x4_1).f2) 127))), .int .i64 0] 44 (0, 0)) (by (with_reducible repeat (first | refine blk_drewN ?_ _ | refine blk_drew ?_ | refine blk_alloc ?_ _)); refine blk_put (cs := #[.int .i64 (wrap64 (1 + (Int.tmod (Go.bits .and .i64 ((rd_T44 l0 x4_1).f0) 255) 4))), .int .i64 (wrap64 (1 + (Go.bits .and .i64 ((rd_T44 l0 x4_1).f1) 63))), .int .i64 (wrap64 (1 + (Go.bits .and .i64 ((rd_T44 l0 x4_1).f2) 127))), .int .i64 (Go.bits .and .i64 ((rd_T44 l0 x4_1).f3) 127)]) ?_ 3 _ rfl; (with_reducible repeat (first | refine blk_drewN ?_ _ | refine blk_drew ?_ | refine blk_alloc ?_ _)); exact BK193.out) k_ hk)); (case aO => exact (by (with_reducible repeat (first | apply Kd.R_alloc | apply Kd.R_drewN | apply Kd.R_drew)); exact Kd.R_mono (Kd.R_far (p := ⟨gb193, 3, none⟩) (Kd.R_mono HO_3.out (fun k_ hk => (⟨hk, hk.2⟩ : _ ∧ k_ ≠ gb193))) (fun _ hk => hk.2) (.int .i64 0)) (fun _ hk => hk.1.2))); (case aS => exact (below_size (by repeat (first | (with_reducible first | exact HB.out | apply below_alloc | apply pw_below_drewN | apply below_drew1 | refine below_set ?_ GE193.out) | exact HB.out)))); (case aL => have := LMc8.out; omega); intro v195 w11 ho hb hg hat; rw [← Ny194.out] at ho; have n0_ := Aside0.mk (blk_grown (g := gb193) (o := .cells #[.int .i64 (wrap64 (1 + (Int.tmod (Go.bits .and .i64 ((rd_T44 l0 x4_1).f0) 255) 4))), .int .i64 (wrap64 (1 + (Go.bits .and .i64 ((rd_T44 l0 x4_1).f1) 63))), .int .i64 (wrap64 (1 + (Go.bits .and .i64 ((rd_T44 l0 x4_1).f2) 127))), .int .i64 0] 44 (0, 0)) (by (with_reducible repeat (first | refine blk_drewN ?_ _ | refine blk_drew ?_ | refine blk_alloc ?_ _)); refine blk_put (cs := #[.int .i64 (wrap64 (1 + (Int.tmod (Go.bits .and .i64 ((rd_T44 l0 x4_1).f0) 255) 4))), .int .i64 (wrap64 (1 + (Go.bits .and .i64 ((rd_T44 l0 x4_1).f1) 63))), .int .i64 (wrap64 (1 + (Go.bits .and .i64 ((rd_T44 l0 x4_1).f2) 127))), .int .i64 (Go.bits .and .i64 ((rd_T44 l0 x4_1).f3) 127)]) ?_ 3 _ rfl; (with_reducible repeat (first | refine blk_drewN ?_ _ | refine blk_drew ?_ | refine blk_alloc ?_ _)); exact BK193.out) hg (Kd.R_away HO_3.out (fun _ hk => hk.2))); have n1_ := Aside0.mk (hb); have n2_ := Aside0.mk (ho); clear BK193; clear HB; clear HO_3; have BK193 := n0_; have HB := n1_; have HO196 := n2_; clear n0_ n1_ n2_; clear ho hb hg hat))
                    go_roundg kj1
                    case measure => have := HK1.out; have := HJ1.out; omega
                    case rel => exact ⟨(y194), (wrap64 (x4_1 + 1)), (by first | rfl | (simp; done) | (simp [*]; done)), H', ⟨by have := HK1.out; have := HJ1.out; omega⟩, ⟨by (with_reducible repeat (first | apply Kd.R_alloc | apply Kd.R_drewN | apply Kd.R_drew)); exact Kd.R_mono HO196.out (fun _ hk => trivial)⟩, ⟨by repeat (first | (with_reducible first | exact HB.out | apply below_alloc | apply pw_below_drewN | apply below_drew1 | refine below_set ?_ GE193.out) | exact HB.out)⟩⟩
                  · rw [if_neg c8] at H
                    exact absurd H (by simp)
                · rw [if_neg c7] at H
                  have c7b0 : ((wrap64 (1 + (Int.tmod (Go.bits .and .i64 ((rd_T44 l0 x4_1).f0) 255) 4))) == 2) = false := beq_eq_false_iff_ne.mpr c7
                  have c7b1 : ((wrap64 (1 + (Int.tmod (Go.bits .and .i64 ((rd_T44 l0 x4_1).f0) 255) 4))) != 2) = true := bne_iff_ne.mpr c7
                  by_cases c12 : (wrap64 (1 + (Int.tmod (Go.bits .and .i64 ((rd_T44 l0 x4_1).f0) 255) 4))) = 3
                  · rw [if_pos c12] at H
                    have c12b0 : ((wrap64 (1 + (Int.tmod (Go.bits .and .i64 ((rd_T44 l0 x4_1).f0) 255) 4))) == 3) = true := beq_iff_eq.mpr c12
                    have c12b1 : ((wrap64 (1 + (Int.tmod (Go.bits .and .i64 ((rd_T44 l0 x4_1).f0) 255) 4))) != 3) = false := bne_eq_false_iff_eq.mpr c12
                    clear c12
                    by_cases c13 : x3_1.length < 4398046511104
                    · rw [if_pos c13] at H
                      have LMc13 := Aside0.mk c13
                      clear c13
                      obtain ⟨y197, hy197⟩ : ∃ y_ : List (S44), y_ = (x3_1 ++ [(⟨wrap64 (1 + (Int.tmod (Go.bits .and .i64 ((rd_T44 l0 x4_1).f0) 255) 4)), 0, wrap64 (1 + (Go.bits .and .i64 ((rd_T44 l0 x4_1).f2) 127)), Go.bits .and .i64 ((rd_T44 l0 x4_1).f3) 127⟩ : S44)]) := ⟨_, rfl⟩
                      replace H : (cotillionlaw09_Tidy.l0 kj1 l0 y197 (wrap64 (x4_1 + 1))) = some r := by first | (rw [hy197]; with_reducible exact H) | (have H2_ := (Option.bind_some _ _).symm.trans H; rw [hy197]; with_reducible exact H2_) | (have H2_ := (Option.bind_some _ _).symm.trans H; with_reducible exact H2_) | with_reducible exact H | (rw [hy197]; exact H) | exact H
                      have Ny197 := Aside0.mk hy197
                      clear hy197
                      have H' := Aside0.mk H
                      clear H
                      have p192 : 0 ≤ (x4_1 : Int) := of_decide_eq_true (by first | (with_reducible assumption) | assumption)
                      have q192 : x4_1 < (l0.length : Int) := of_decide_eq_true (by first | (with_reducible assumption) | assumption)
                      obtain ⟨ad192, e192, hx192_0, hx192_1, hx192_2, hx192_3⟩ := at_T44 HR0.out x4_1 p192 q192
                      cases e192
                      replace hx192_0 := (HB.out.cell (World.block_lt_of_cell? w _ hx192_0)).trans hx192_0
                      replace hx192_1 := (HB.out.cell (World.block_lt_of_cell? w _ hx192_1)).trans hx192_1
                      replace hx192_2 := (HB.out.cell (World.block_lt_of_cell? w _ hx192_2)).trans hx192_2
                      replace hx192_3 := (HB.out.cell (World.block_lt_of_cell? w _ hx192_3)).trans hx192_3
                      replace p192 := eq_true p192
                      replace q192 := eq_true q192
                      go_upto_region 9 with (first | ((with_reducible refine gate_dst (N := 5) rfl ?_); refine box_event ?hg (N := 5) ?hd (cs := #[.int .i64 0, .int .i64 0, .int .i64 0, .int .i64 0]) (t := 44) ?hr ?_; (case hd => rfl); (case hg => rfl); (case hr => first | (go_simp; done) | (go_simp; rfl)); intro gb193 hg w14 hbox hb; have n0_ := Aside0.mk (Kd.R_below (Kd.R_elderB (by (with_reducible repeat (first | apply Kd.R_alloc | apply Kd.R_drewN | apply Kd.R_drew)); exact HO_3.out) gb193 (Nat.le_of_eq hg.symm)) hb); have n1_ := Aside0.mk (below_step (by repeat (first | (with_reducible first | exact HB.out | apply below_alloc | apply pw_below_drewN | apply below_drew1) | exact HB.out)) hb); have n2_ := Aside0.mk (hbox); have n3_ := Aside0.mk ((by rw [hg]; exact (below_size (by repeat (first | (with_reducible first | exact HB.out | apply below_alloc | apply pw_below_drewN | apply below_drew1) | exact HB.out))) : w.heap.size ≤ gb193)); have n4_ := Aside0.mk ((by rw [hg]; exact (below_size (by repeat (first | (with_reducible first | exact HB.out | apply below_alloc | apply pw_below_drewN | apply below_drew1) | exact HB.out))) : w.heap.size ≤ gb193)); clear HO_3; clear HB; have HO_3 := n0_; have HB := n1_; have BK193 := n2_; have GW193 := n3_; have GE193 := n4_; clear n0_ n1_ n2_ n3_ n4_; clear hb hbox hg; have hcz15_0 : w14.cell? ⟨gb193, 0, none⟩ = some (.int .i64 0) := (blk_cell BK193.out 0).trans rfl; have hcz15_1 : w14.cell? ⟨gb193, 1, none⟩ = some (.int .i64 0) := (blk_cell BK193.out 1).trans rfl; have hcz15_2 : w14.cell? ⟨gb193, 2, none⟩ = some (.int .i64 0) := (blk_cell BK193.out 2).trans rfl; have hcz15_3 : w14.cell? ⟨gb193, 3, none⟩ = some (.int .i64 0) := (blk_cell BK193.out 3).trans rfl; have hfz15_0 := blk_frozen BK193.out 0; have hfz15_1 := blk_frozen BK193.out 1; have hfz15_2 := blk_frozen BK193.out 2; have hfz15_3 := blk_frozen BK193.out 3))
                      have t0_ := (blk_put (cs' := #[.int .i64 (wrap64 (1 + (Int.tmod (Go.bits .and .i64 ((rd_T44 l0 x4_1).f0) 255) 4))), .int .i64 (wrap64 (1 + (Go.bits .and .i64 ((rd_T44 l0 x4_1).f1) 63))), .int .i64 (wrap64 (1 + (Go.bits .and .i64 ((rd_T44 l0 x4_1).f2) 127))), .int .i64 (Go.bits .and .i64 ((rd_T44 l0 x4_1).f3) 127)]) (blk_put (cs' := #[.int .i64 (wrap64 (1 + (Int.tmod (Go.bits .and .i64 ((rd_T44 l0 x4_1).f0) 255) 4))), .int .i64 (wrap64 (1 + (Go.bits .and .i64 ((rd_T44 l0 x4_1).f1) 63))), .int .i64 (wrap64 (1 + (Go.bits .and .i64 ((rd_T44 l0 x4_1).f2) 127))), .int .i64 ((rd_T44 l0 x4_1).f3)]) (blk_put (cs' := #[.int .i64 (wrap64 (1 + (Int.tmod (Go.bits .and .i64 ((rd_T44 l0 x4_1).f0) 255) 4))), .int .i64 (wrap64 (1 + (Go.bits .and .i64 ((rd_T44 l0 x4_1).f1) 63))), .int .i64 ((rd_T44 l0 x4_1).f2), .int .i64 ((rd_T44 l0 x4_1).f3)]) (blk_put (cs' := #[.int .i64 (wrap64 (1 + (Int.tmod (Go.bits .and .i64 ((rd_T44 l0 x4_1).f0) 255) 4))), .int .i64 ((rd_T44 l0 x4_1).f1), .int .i64 ((rd_T44 l0 x4_1).f2), .int .i64 ((rd_T44 l0 x4_1).f3)]) (blk_put (cs' := #[.int .i64 ((rd_T44 l0 x4_1).f0), .int .i64 ((rd_T44 l0 x4_1).f1), .int .i64 ((rd_T44 l0 x4_1).f2), .int .i64 ((rd_T44 l0 x4_1).f3)]) (blk_put (cs' := #[.int .i64 ((rd_T44 l0 x4_1).f0), .int .i64 ((rd_T44 l0 x4_1).f1), .int .i64 ((rd_T44 l0 x4_1).f2), .int .i64 (0)]) (blk_put (cs' := #[.int .i64 ((rd_T44 l0 x4_1).f0), .int .i64 ((rd_T44 l0 x4_1).f1), .int .i64 (0), .int .i64 (0)]) (blk_put (cs' := #[.int .i64 ((rd_T44 l0 x4_1).f0), .int .i64 (0), .int .i64 (0), .int .i64 (0)]) BK193.out 0 (.int .i64 ((rd_T44 l0 x4_1).f0)) rfl) 1 (.int .i64 ((rd_T44 l0 x4_1).f1)) rfl) 2 (.int .i64 ((rd_T44 l0 x4_1).f2)) rfl) 3 (.int .i64 ((rd_T44 l0 x4_1).f3)) rfl) 0 (.int .i64 (wrap64 (1 + (Int.tmod (Go.bits .and .i64 ((rd_T44 l0 x4_1).f0) 255) 4)))) rfl) 1 (.int .i64 (wrap64 (1 + (Go.bits .and .i64 ((rd_T44 l0 x4_1).f1) 63)))) rfl) 2 (.int .i64 (wrap64 (1 + (Go.bits .and .i64 ((rd_T44 l0 x4_1).f2) 127)))) rfl) 3 (.int .i64 (Go.bits .and .i64 ((rd_T44 l0 x4_1).f3) 127)) rfl)
                      have t1_ := (Kd.R_far (p := ⟨gb193, 3, none⟩) (Kd.R_far (p := ⟨gb193, 2, none⟩) (Kd.R_far (p := ⟨gb193, 1, none⟩) (Kd.R_far (p := ⟨gb193, 0, none⟩) (Kd.R_far (p := ⟨gb193, 3, none⟩) (Kd.R_far (p := ⟨gb193, 2, none⟩) (Kd.R_far (p := ⟨gb193, 1, none⟩) (Kd.R_far (p := ⟨gb193, 0, none⟩) HO_3.out (fun _ hk => hk.2) (.int .i64 ((rd_T44 l0 x4_1).f0))) (fun _ hk => hk.2) (.int .i64 ((rd_T44 l0 x4_1).f1))) (fun _ hk => hk.2) (.int .i64 ((rd_T44 l0 x4_1).f2))) (fun _ hk => hk.2) (.int .i64 ((rd_T44 l0 x4_1).f3))) (fun _ hk => hk.2) (.int .i64 (wrap64 (1 + (Int.tmod (Go.bits .and .i64 ((rd_T44 l0 x4_1).f0) 255) 4))))) (fun _ hk => hk.2) (.int .i64 (wrap64 (1 + (Go.bits .and .i64 ((rd_T44 l0 x4_1).f1) 63))))) (fun _ hk => hk.2) (.int .i64 (wrap64 (1 + (Go.bits .and .i64 ((rd_T44 l0 x4_1).f2) 127))))) (fun _ hk => hk.2) (.int .i64 (Go.bits .and .i64 ((rd_T44 l0 x4_1).f3) 127)))
                      have t2_ := (below_set (j := 3) (v := (.int .i64 (Go.bits .and .i64 ((rd_T44 l0 x4_1).f3) 127))) (below_set (j := 2) (v := (.int .i64 (wrap64 (1 + (Go.bits .and .i64 ((rd_T44 l0 x4_1).f2) 127))))) (below_set (j := 1) (v := (.int .i64 (wrap64 (1 + (Go.bits .and .i64 ((rd_T44 l0 x4_1).f1) 63))))) (below_set (j := 0) (v := (.int .i64 (wrap64 (1 + (Int.tmod (Go.bits .and .i64 ((rd_T44 l0 x4_1).f0) 255) 4))))) (below_set (j := 3) (v := (.int .i64 ((rd_T44 l0 x4_1).f3))) (below_set (j := 2) (v := (.int .i64 ((rd_T44 l0 x4_1).f2))) (below_set (j := 1) (v := (.int .i64 ((rd_T44 l0 x4_1).f1))) (below_set (j := 0) (v := (.int .i64 ((rd_T44 l0 x4_1).f0))) HB.out GE193.out) GE193.out) GE193.out) GE193.out) GE193.out) GE193.out) GE193.out) GE193.out)
                      generalize hWc_ : ((((((((w14.setCell ⟨gb193, 0, none⟩ (.int .i64 ((rd_T44 l0 x4_1).f0))).setCell ⟨gb193, 1, none⟩ (.int .i64 ((rd_T44 l0 x4_1).f1))).setCell ⟨gb193, 2, none⟩ (.int .i64 ((rd_T44 l0 x4_1).f2))).setCell ⟨gb193, 3, none⟩ (.int .i64 ((rd_T44 l0 x4_1).f3))).setCell ⟨gb193, 0, none⟩ (.int .i64 (wrap64 (1 + (Int.tmod (Go.bits .and .i64 ((rd_T44 l0 x4_1).f0) 255) 4))))).setCell ⟨gb193, 1, none⟩ (.int .i64 (wrap64 (1 + (Go.bits .and .i64 ((rd_T44 l0 x4_1).f1) 63))))).setCell ⟨gb193, 2, none⟩ (.int .i64 (wrap64 (1 + (Go.bits .and .i64 ((rd_T44 l0 x4_1).f2) 127))))).setCell ⟨gb193, 3, none⟩ (.int .i64 (Go.bits .and .i64 ((rd_T44 l0 x4_1).f3) 127))) = wc193 at *
                      have n0_ := Aside0.mk t0_
                      have n1_ := Aside0.mk t1_
                      have n2_ := Aside0.mk t2_
                      clear t0_ t1_ t2_ hWc_ BK193 HB HO_3
                      (try clear hcz15_0 hfz15_0 hcz15_1 hfz15_1 hcz15_2 hfz15_2 hcz15_3 hfz15_3)
                      have BK193 := n0_
                      have HO_3 := n1_
                      have HB := n2_
                      clear n0_ n1_ n2_
                      have hcy_0 : wc193.cell? ⟨gb193, 0, none⟩ = some (.int .i64 (wrap64 (1 + (Int.tmod (Go.bits .and .i64 ((rd_T44 l0 x4_1).f0) 255) 4)))) := (blk_cell BK193.out 0).trans rfl
                      have hfy_0 := blk_frozen BK193.out 0
                      have hcy_1 : wc193.cell? ⟨gb193, 1, none⟩ = some (.int .i64 (wrap64 (1 + (Go.bits .and .i64 ((rd_T44 l0 x4_1).f1) 63)))) := (blk_cell BK193.out 1).trans rfl
                      have hfy_1 := blk_frozen BK193.out 1
                      have hcy_2 : wc193.cell? ⟨gb193, 2, none⟩ = some (.int .i64 (wrap64 (1 + (Go.bits .and .i64 ((rd_T44 l0 x4_1).f2) 127)))) := (blk_cell BK193.out 2).trans rfl
                      have hfy_2 := blk_frozen BK193.out 2
                      have hcy_3 : wc193.cell? ⟨gb193, 3, none⟩ = some (.int .i64 (Go.bits .and .i64 ((rd_T44 l0 x4_1).f3) 127)) := (blk_cell BK193.out 3).trans rfl
                      have hfy_3 := blk_frozen BK193.out 3
                      go_wp2_with (first | ((with_reducible refine gate_builtin (b := .append) (xs := #[.tmp 52, .tmp 54]) rfl ?_); at_builtin; refine Kd.R_append k44 (w0 := w) w.heap.size rfl (.tmp 52) (.tmp 54) 41 44 (.agg #[(.int .i64 0), (.int .i64 0), (.int .i64 0), (.int .i64 0)]) 32 rfl Try.underlying41 info44 rfl (by decide) (by omega) u3 x3_1 (⟨wrap64 (1 + (Int.tmod (Go.bits .and .i64 ((rd_T44 l0 x4_1).f0) 255) 4)), 0, wrap64 (1 + (Go.bits .and .i64 ((rd_T44 l0 x4_1).f2) 127)), Go.bits .and .i64 ((rd_T44 l0 x4_1).f3) 127⟩ : S44) [.int .i64 (wrap64 (1 + (Int.tmod (Go.bits .and .i64 ((rd_T44 l0 x4_1).f0) 255) 4))), .int .i64 0, .int .i64 (wrap64 (1 + (Go.bits .and .i64 ((rd_T44 l0 x4_1).f2) 127))), .int .i64 (Go.bits .and .i64 ((rd_T44 l0 x4_1).f3) 127)] (fun k_ => k_ ≠ gb193) (fun _ => False) rfl (by first | (go_simp; done) | (go_simp; rfl)) ?aP (fun _ hk => hk.elim) ?aF ?aO ?aB ?aS ?aL ?_; (case aP => exact k44_mkM _ _ _ (⟨wrap64 (1 + (Int.tmod (Go.bits .and .i64 ((rd_T44 l0 x4_1).f0) 255) 4)), 0, wrap64 (1 + (Go.bits .and .i64 ((rd_T44 l0 x4_1).f2) 127)), Go.bits .and .i64 ((rd_T44 l0 x4_1).f3) 127⟩ : S44)); (case aB => exact (by repeat (first | (with_reducible first | exact HB.out | apply below_alloc | apply pw_below_drewN | apply below_drew1 | refine below_set ?_ GE193.out) | exact HB.out))); (case aF => exact (fun k_ hk => Kd.freshB (g := gb193) (o := .cells #[.int .i64 (wrap64 (1 + (Int.tmod (Go.bits .and .i64 ((rd_T44 l0 x4_1).f0) 255) 4))), .int .i64 0, .int .i64 (wrap64 (1 + (Go.bits .and .i64 ((rd_T44 l0 x4_1).f2) 127))), .int .i64 (Go.bits .and .i64 ((rd_T44 l0 x4_1).f3) 127)] 44 (0, 0)) (by (with_reducible repeat (first | refine blk_drewN ?_ _ | refine blk_drew ?_ | refine blk_alloc ?_ _)); refine blk_put (cs := #[.int .i64 (wrap64 (1 + (Int.tmod (Go.bits .and .i64 ((rd_T44 l0 x4_1).f0) 255) 4))), .int .i64 (wrap64 (1 + (Go.bits .and .i64 ((rd_T44 l0 x4_1).f1) 63))), .int .i64 (wrap64 (1 + (Go.bits .and .i64 ((rd_T44 l0 x4_1).f2) 127))), .int .i64 (Go.bits .and .i64 ((rd_T44 l0 x4_1).f3) 127)]) ?_ 1 _ rfl; (with_reducible repeat (first | refine blk_drewN ?_ _ | refine blk_drew ?_ | refine blk_alloc ?_ _)); exact BK193.out) k_ hk)); (case aO => exact (by (with_reducible repeat (first | apply Kd.R_alloc | apply Kd.R_drewN | apply Kd.R_drew)); exact Kd.R_mono (Kd.R_far (p := ⟨gb193, 1, none⟩) (Kd.R_mono HO_3.out (fun k_ hk => (⟨hk, hk.2⟩ : _ ∧ k_ ≠ gb193))) (fun _ hk => hk.2) (.int .i64 0)) (fun _ hk => hk.1.2))); (case aS => exact (below_size (by repeat (first | (with_reducible first | exact HB.out | apply below_alloc | apply pw_below_drewN | apply below_drew1 | refine below_set ?_ GE193.out) | exact HB.out)))); (case aL => have := LMc13.out; omega); intro v198 w16 ho hb hg hat; rw [← Ny197.out] at ho; have n0_ := Aside0.mk (blk_grown (g := gb193) (o := .cells #[.int .i64 (wrap64 (1 + (Int.tmod (Go.bits .and .i64 ((rd_T44 l0 x4_1).f0) 255) 4))), .int .i64 0, .int .i64 (wrap64 (1 + (Go.bits .and .i64 ((rd_T44 l0 x4_1).f2) 127))), .int .i64 (Go.bits .and .i64 ((rd_T44 l0 x4_1).f3) 127)] 44 (0, 0)) (by (with_reducible repeat (first | refine blk_drewN ?_ _ | refine blk_drew ?_ | refine blk_alloc ?_ _)); refine blk_put (cs := #[.int .i64 (wrap64 (1 + (Int.tmod (Go.bits .and .i64 ((rd_T44 l0 x4_1).f0) 255) 4))), .int .i64 (wrap64 (1 + (Go.bits .and .i64 ((rd_T44 l0 x4_1).f1) 63))), .int .i64 (wrap64 (1 + (Go.bits .and .i64 ((rd_T44 l0 x4_1).f2) 127))), .int .i64 (Go.bits .and .i64 ((rd_T44 l0 x4_1).f3) 127)]) ?_ 1 _ rfl; (with_reducible repeat (first | refine blk_drewN ?_ _ | refine blk_drew ?_ | refine blk_alloc ?_ _)); exact BK193.out) hg (Kd.R_away HO_3.out (fun _ hk => hk.2))); have n1_ := Aside0.mk (hb); have n2_ := Aside0.mk (ho); clear BK193; clear HB; clear HO_3; have BK193 := n0_; have HB := n1_; have HO199 := n2_; clear n0_ n1_ n2_; clear ho hb hg hat))
                      go_roundg kj1
                      case measure => have := HK1.out; have := HJ1.out; omega
                      case rel => exact ⟨(y197), (wrap64 (x4_1 + 1)), (by first | rfl | (simp; done) | (simp [*]; done)), H', ⟨by have := HK1.out; have := HJ1.out; omega⟩, ⟨by (with_reducible repeat (first | apply Kd.R_alloc | apply Kd.R_drewN | apply Kd.R_drew)); exact Kd.R_mono HO199.out (fun _ hk => trivial)⟩, ⟨by repeat (first | (with_reducible first | exact HB.out | apply below_alloc | apply pw_below_drewN | apply below_drew1 | refine below_set ?_ GE193.out) | exact HB.out)⟩⟩
                    · rw [if_neg c13] at H
                      exact absurd H (by simp)
                  · rw [if_neg c12] at H
                    have c12b0 : ((wrap64 (1 + (Int.tmod (Go.bits .and .i64 ((rd_T44 l0 x4_1).f0) 255) 4))) == 3) = false := beq_eq_false_iff_ne.mpr c12
                    have c12b1 : ((wrap64 (1 + (Int.tmod (Go.bits .and .i64 ((rd_T44 l0 x4_1).f0) 255) 4))) != 3) = true := bne_iff_ne.mpr c12
                    by_cases c17 : (wrap64 (1 + (Int.tmod (Go.bits .and .i64 ((rd_T44 l0 x4_1).f0) 255) 4))) = 4
                    · rw [if_pos c17] at H
                      have c17b0 : ((wrap64 (1 + (Int.tmod (Go.bits .and .i64 ((rd_T44 l0 x4_1).f0) 255) 4))) == 4) = true := beq_iff_eq.mpr c17
                      have c17b1 : ((wrap64 (1 + (Int.tmod (Go.bits .and .i64 ((rd_T44 l0 x4_1).f0) 255) 4))) != 4) = false := bne_eq_false_iff_eq.mpr c17
                      clear c17
                      by_cases c18 : x3_1.length < 4398046511104
                      · rw [if_pos c18] at H
                        have LMc18 := Aside0.mk c18
                        clear c18
                        obtain ⟨y200, hy200⟩ : ∃ y_ : List (S44), y_ = (x3_1 ++ [(⟨wrap64 (1 + (Int.tmod (Go.bits .and .i64 ((rd_T44 l0 x4_1).f0) 255) 4)), wrap64 (1 + (Go.bits .and .i64 ((rd_T44 l0 x4_1).f1) 63)), 0, 0⟩ : S44)]) := ⟨_, rfl⟩
                        replace H : (cotillionlaw09_Tidy.l0 kj1 l0 y200 (wrap64 (x4_1 + 1))) = some r := by first | (rw [hy200]; with_reducible exact H) | (have H2_ := (Option.bind_some _ _).symm.trans H; rw [hy200]; with_reducible exact H2_) | (have H2_ := (Option.bind_some _ _).symm.trans H; with_reducible exact H2_) | with_reducible exact H | (rw [hy200]; exact H) | exact H
                        have Ny200 := Aside0.mk hy200
                        clear hy200
                        have H' := Aside0.mk H
                        clear H
                        have p192 : 0 ≤ (x4_1 : Int) := of_decide_eq_true (by first | (with_reducible assumption) | assumption)
                        have q192 : x4_1 < (l0.length : Int) := of_decide_eq_true (by first | (with_reducible assumption) | assumption)
                        obtain ⟨ad192, e192, hx192_0, hx192_1, hx192_2, hx192_3⟩ := at_T44 HR0.out x4_1 p192 q192
                        cases e192
                        replace hx192_0 := (HB.out.cell (World.block_lt_of_cell? w _ hx192_0)).trans hx192_0
                        replace hx192_1 := (HB.out.cell (World.block_lt_of_cell? w _ hx192_1)).trans hx192_1
                        replace hx192_2 := (HB.out.cell (World.block_lt_of_cell? w _ hx192_2)).trans hx192_2
                        replace hx192_3 := (HB.out.cell (World.block_lt_of_cell? w _ hx192_3)).trans hx192_3
                        replace p192 := eq_true p192
                        replace q192 := eq_true q192
                        go_upto_region 9 with (first | ((with_reducible refine gate_dst (N := 5) rfl ?_); refine box_event ?hg (N := 5) ?hd (cs := #[.int .i64 0, .int .i64 0, .int .i64 0, .int .i64 0]) (t := 44) ?hr ?_; (case hd => rfl); (case hg => rfl); (case hr => first | (go_simp; done) | (go_simp; rfl)); intro gb193 hg w19 hbox hb; have n0_ := Aside0.mk (Kd.R_below (Kd.R_elderB (by (with_reducible repeat (first | apply Kd.R_alloc | apply Kd.R_drewN | apply Kd.R_drew)); exact HO_3.out) gb193 (Nat.le_of_eq hg.symm)) hb); have n1_ := Aside0.mk (below_step (by repeat (first | (with_reducible first | exact HB.out | apply below_alloc | apply pw_below_drewN | apply below_drew1) | exact HB.out)) hb); have n2_ := Aside0.mk (hbox); have n3_ := Aside0.mk ((by rw [hg]; exact (below_size (by repeat (first | (with_reducible first | exact HB.out | apply below_alloc | apply pw_below_drewN | apply below_drew1) | exact HB.out))) : w.heap.size ≤ gb193)); have n4_ := Aside0.mk ((by rw [hg]; exact (below_size (by repeat (first | (with_reducible first | exact HB.out | apply below_alloc | apply pw_below_drewN | apply below_drew1) | exact HB.out))) : w.heap.size ≤ gb193)); clear HO_3; clear HB; have HO_3 := n0_; have HB := n1_; have BK193 := n2_; have GW193 := n3_; have GE193 := n4_; clear n0_ n1_ n2_ n3_ n4_; clear hb hbox hg; have hcz20_0 : w19.cell? ⟨gb193, 0, none⟩ = some (.int .i64 0) := (blk_cell BK193.out 0).trans rfl; have hcz20_1 : w19.cell? ⟨gb193, 1, none⟩ = some (.int .i64 0) := (blk_cell BK193.out 1).trans rfl; have hcz20_2 : w19.cell? ⟨gb193, 2, none⟩ = some (.int .i64 0) := (blk_cell BK193.out 2).trans rfl; have hcz20_3 : w19.cell? ⟨gb193, 3, none⟩ = some (.int .i64 0) := (blk_cell BK193.out 3).trans rfl; have hfz20_0 := blk_frozen BK193.out 0; have hfz20_1 := blk_frozen BK193.out 1; have hfz20_2 := blk_frozen BK193.out 2; have hfz20_3 := blk_frozen BK193.out 3))
                        have t0_ := (blk_put (cs' := #[.int .i64 (wrap64 (1 + (Int.tmod (Go.bits .and .i64 ((rd_T44 l0 x4_1).f0) 255) 4))), .int .i64 (wrap64 (1 + (Go.bits .and .i64 ((rd_T44 l0 x4_1).f1) 63))), .int .i64 (wrap64 (1 + (Go.bits .and .i64 ((rd_T44 l0 x4_1).f2) 127))), .int .i64 (Go.bits .and .i64 ((rd_T44 l0 x4_1).f3) 127)]) (blk_put (cs' := #[.int .i64 (wrap64 (1 + (Int.tmod (Go.bits .and .i64 ((rd_T44 l0 x4_1).f0) 255) 4))), .int .i64 (wrap64 (1 + (Go.bits .and .i64 ((rd_T44 l0 x4_1).f1) 63))), .int .i64 (wrap64 (1 + (Go.bits .and .i64 ((rd_T44 l0 x4_1).f2) 127))), .int .i64 ((rd_T44 l0 x4_1).f3)]) (blk_put (cs' := #[.int .i64 (wrap64 (1 + (Int.tmod (Go.bits .and .i64 ((rd_T44 l0 x4_1).f0) 255) 4))), .int .i64 (wrap64 (1 + (Go.bits .and .i64 ((rd_T44 l0 x4_1).f1) 63))), .int .i64 ((rd_T44 l0 x4_1).f2), .int .i64 ((rd_T44 l0 x4_1).f3)]) (blk_put (cs' := #[.int .i64 (wrap64 (1 + (Int.tmod (Go.bits .and .i64 ((rd_T44 l0 x4_1).f0) 255) 4))), .int .i64 ((rd_T44 l0 x4_1).f1), .int .i64 ((rd_T44 l0 x4_1).f2), .int .i64 ((rd_T44 l0 x4_1).f3)]) (blk_put (cs' := #[.int .i64 ((rd_T44 l0 x4_1).f0), .int .i64 ((rd_T44 l0 x4_1).f1), .int .i64 ((rd_T44 l0 x4_1).f2), .int .i64 ((rd_T44 l0 x4_1).f3)]) (blk_put (cs' := #[.int .i64 ((rd_T44 l0 x4_1).f0), .int .i64 ((rd_T44 l0 x4_1).f1), .int .i64 ((rd_T44 l0 x4_1).f2), .int .i64 (0)]) (blk_put (cs' := #[.int .i64 ((rd_T44 l0 x4_1).f0), .int .i64 ((rd_T44 l0 x4_1).f1), .int .i64 (0), .int .i64 (0)]) (blk_put (cs' := #[.int .i64 ((rd_T44 l0 x4_1).f0), .int .i64 (0), .int .i64 (0), .int .i64 (0)]) BK193.out 0 (.int .i64 ((rd_T44 l0 x4_1).f0)) rfl) 1 (.int .i64 ((rd_T44 l0 x4_1).f1)) rfl) 2 (.int .i64 ((rd_T44 l0 x4_1).f2)) rfl) 3 (.int .i64 ((rd_T44 l0 x4_1).f3)) rfl) 0 (.int .i64 (wrap64 (1 + (Int.tmod (Go.bits .and .i64 ((rd_T44 l0 x4_1).f0) 255) 4)))) rfl) 1 (.int .i64 (wrap64 (1 + (Go.bits .and .i64 ((rd_T44 l0 x4_1).f1) 63)))) rfl) 2 (.int .i64 (wrap64 (1 + (Go.bits .and .i64 ((rd_T44 l0 x4_1).f2) 127)))) rfl) 3 (.int .i64 (Go.bits .and .i64 ((rd_T44 l0 x4_1).f3) 127)) rfl)
                        have t1_ := (Kd.R_far (p := ⟨gb193, 3, none⟩) (Kd.R_far (p := ⟨gb193, 2, none⟩) (Kd.R_far (p := ⟨gb193, 1, none⟩) (Kd.R_far (p := ⟨gb193, 0, none⟩) (Kd.R_far (p := ⟨gb193, 3, none⟩) (Kd.R_far (p := ⟨gb193, 2, none⟩) (Kd.R_far (p := ⟨gb193, 1, none⟩) (Kd.R_far (p := ⟨gb193, 0, none⟩) HO_3.out (fun _ hk => hk.2) (.int .i64 ((rd_T44 l0 x4_1).f0))) (fun _ hk => hk.2) (.int .i64 ((rd_T44 l0 x4_1).f1))) (fun _ hk => hk.2) (.int .i64 ((rd_T44 l0 x4_1).f2))) (fun _ hk => hk.2) (.int .i64 ((rd_T44 l0 x4_1).f3))) (fun _ hk => hk.2) (.int .i64 (wrap64 (1 + (Int.tmod (Go.bits .and .i64 ((rd_T44 l0 x4_1).f0) 255) 4))))) (fun _ hk => hk.2) (.int .i64 (wrap64 (1 + (Go.bits .and .i64 ((rd_T44 l0 x4_1).f1) 63))))) (fun _ hk => hk.2) (.int .i64 (wrap64 (1 + (Go.bits .and .i64 ((rd_T44 l0 x4_1).f2) 127))))) (fun _ hk => hk.2) (.int .i64 (Go.bits .and .i64 ((rd_T44 l0 x4_1).f3) 127)))
                        have t2_ := (below_set (j := 3) (v := (.int .i64 (Go.bits .and .i64 ((rd_T44 l0 x4_1).f3) 127))) (below_set (j := 2) (v := (.int .i64 (wrap64 (1 + (Go.bits .and .i64 ((rd_T44 l0 x4_1).f2) 127))))) (below_set (j := 1) (v := (.int .i64 (wrap64 (1 + (Go.bits .and .i64 ((rd_T44 l0 x4_1).f1) 63))))) (below_set (j := 0) (v := (.int .i64 (wrap64 (1 + (Int.tmod (Go.bits .and .i64 ((rd_T44 l0 x4_1).f0) 255) 4))))) (below_set (j := 3) (v := (.int .i64 ((rd_T44 l0 x4_1).f3))) (below_set (j := 2) (v := (.int .i64 ((rd_T44 l0 x4_1).f2))) (below_set (j := 1) (v := (.int .i64 ((rd_T44 l0 x4_1).f1))) (below_set (j := 0) (v := (.int .i64 ((rd_T44 l0 x4_1).f0))) HB.out GE193.out) GE193.out) GE193.out) GE193.out) GE193.out) GE193.out) GE193.out) GE193.out)
                        generalize hWc_ : ((((((((w19.setCell ⟨gb193, 0, none⟩ (.int .i64 ((rd_T44 l0 x4_1).f0))).setCell ⟨gb193, 1, none⟩ (.int .i64 ((rd_T44 l0 x4_1).f1))).setCell ⟨gb193, 2, none⟩ (.int .i64 ((rd_T44 l0 x4_1).f2))).setCell ⟨gb193, 3, none⟩ (.int .i64 ((rd_T44 l0 x4_1).f3))).setCell ⟨gb193, 0, none⟩ (.int .i64 (wrap64 (1 + (Int.tmod (Go.bits .and .i64 ((rd_T44 l0 x4_1).f0) 255) 4))))).setCell ⟨gb193, 1, none⟩ (.int .i64 (wrap64 (1 + (Go.bits .and .i64 ((rd_T44 l0 x4_1).f1) 63))))).setCell ⟨gb193, 2, none⟩ (.int .i64 (wrap64 (1 + (Go.bits .and .i64 ((rd_T44 l0 x4_1).f2) 127))))).setCell ⟨gb193, 3, none⟩ (.int .i64 (Go.bits .and .i64 ((rd_T44 l0 x4_1).f3) 127))) = wc193 at *
                        have n0_ := Aside0.mk t0_
                        have n1_ := Aside0.mk t1_
                        have n2_ := Aside0.mk t2_
                        clear t0_ t1_ t2_ hWc_ BK193 HB HO_3
                        (try clear hcz20_0 hfz20_0 hcz20_1 hfz20_1 hcz20_2 hfz20_2 hcz20_3 hfz20_3)
                        have BK193 := n0_
                        have HO_3 := n1_
                        have HB := n2_
                        clear n0_ n1_ n2_
                        have hcy_0 : wc193.cell? ⟨gb193, 0, none⟩ = some (.int .i64 (wrap64 (1 + (Int.tmod (Go.bits .and .i64 ((rd_T44 l0 x4_1).f0) 255) 4)))) := (blk_cell BK193.out 0).trans rfl
                        have hfy_0 := blk_frozen BK193.out 0
                        have hcy_1 : wc193.cell? ⟨gb193, 1, none⟩ = some (.int .i64 (wrap64 (1 + (Go.bits .and .i64 ((rd_T44 l0 x4_1).f1) 63)))) := (blk_cell BK193.out 1).trans rfl
                        have hfy_1 := blk_frozen BK193.out 1
                        have hcy_2 : wc193.cell? ⟨gb193, 2, none⟩ = some (.int .i64 (wrap64 (1 + (Go.bits .and .i64 ((rd_T44 l0 x4_1).f2) 127)))) := (blk_cell BK193.out 2).trans rfl
                        have hfy_2 := blk_frozen BK193.out 2
                        have hcy_3 : wc193.cell? ⟨gb193, 3, none⟩ = some (.int .i64 (Go.bits .and .i64 ((rd_T44 l0 x4_1).f3) 127)) := (blk_cell BK193.out 3).trans rfl
                        have hfy_3 := blk_frozen BK193.out 3
                        go_wp2_with (first | ((with_reducible refine gate_builtin (b := .append) (xs := #[.tmp 52, .tmp 54]) rfl ?_); at_builtin; refine Kd.R_append k44 (w0 := w) w.heap.size rfl (.tmp 52) (.tmp 54) 41 44 (.agg #[(.int .i64 0), (.int .i64 0), (.int .i64 0), (.int .i64 0)]) 32 rfl Try.underlying41 info44 rfl (by decide) (by omega) u3 x3_1 (⟨wrap64 (1 + (Int.tmod (Go.bits .and .i64 ((rd_T44 l0 x4_1).f0) 255) 4)), wrap64 (1 + (Go.bits .and .i64 ((rd_T44 l0 x4_1).f1) 63)), 0, 0⟩ : S44) [.int .i64 (wrap64 (1 + (Int.tmod (Go.bits .and .i64 ((rd_T44 l0 x4_1).f0) 255) 4))), .int .i64 (wrap64 (1 + (Go.bits .and .i64 ((rd_T44 l0 x4_1).f1) 63))), .int .i64 0, .int .i64 0] (fun k_ => k_ ≠ gb193) (fun _ => False) rfl (by first | (go_simp; done) | (go_simp; rfl)) ?aP (fun _ hk => hk.elim) ?aF ?aO ?aB ?aS ?aL ?_; (case aP => exact k44_mkM _ _ _ (⟨wrap64 (1 + (Int.tmod (Go.bits .and .i64 ((rd_T44 l0 x4_1).f0) 255) 4)), wrap64 (1 + (Go.bits .and .i64 ((rd_T44 l0 x4_1).f1) 63)), 0, 0⟩ : S44)); (case aB => exact (by repeat (first | (with_reducible first | exact HB.out | apply below_alloc | apply pw_below_drewN | apply below_drew1 | refine below_set ?_ GE193.out) | exact HB.out))); (case aF => exact (fun k_ hk => Kd.freshB (g := gb193) (o := .cells #[.int .i64 (wrap64 (1 + (Int.tmod (Go.bits .and .i64 ((rd_T44 l0 x4_1).f0) 255) 4))), .int .i64 (wrap64 (1 + (Go.bits .and .i64 ((rd_T44 l0 x4_1).f1) 63))), .int .i64 0, .int .i64 0] 44 (0, 0)) (by (with_reducible repeat (first | refine blk_drewN ?_ _ | refine blk_drew ?_ | refine blk_alloc ?_ _)); refine blk_put (cs := #[.int .i64 (wrap64 (1 + (Int.tmod (Go.bits .and .i64 ((rd_T44 l0 x4_1).f0) 255) 4))), .int .i64 (wrap64 (1 + (Go.bits .and .i64 ((rd_T44 l0 x4_1).f1) 63))), .int .i64 0, .int .i64 (Go.bits .and .i64 ((rd_T44 l0 x4_1).f3) 127)]) ?_ 3 _ rfl; (with_reducible repeat (first | refine blk_drewN ?_ _ | refine blk_drew ?_ | refine blk_alloc ?_ _)); refine blk_put (cs := #[.int .i64 (wrap64 (1 + (Int.tmod (Go.bits .and .i64 ((rd_T44 l0 x4_1).f0) 255) 4))), .int .i64 (wrap64 (1 + (Go.bits .and .i64 ((rd_T44 l0 x4_1).f1) 63))), .int .i64 (wrap64 (1 + (Go.bits .and .i64 ((rd_T44 l0 x4_1).f2) 127))), .int .i64 (Go.bits .and .i64 ((rd_T44 l0 x4_1).f3) 127)]) ?_ 2 _ rfl; (with_reducible repeat (first | refine blk_drewN ?_ _ | refine blk_drew ?_ | refine blk_alloc ?_ _)); exact BK193.out) k_ hk)); (case aO => exact (by (with_reducible repeat (first | apply Kd.R_alloc | apply Kd.R_drewN | apply Kd.R_drew)); exact Kd.R_mono (Kd.R_far (p := ⟨gb193, 3, none⟩) (Kd.R_far (p := ⟨gb193, 2, none⟩) (Kd.R_mono HO_3.out (fun k_ hk => (⟨hk, hk.2⟩ : _ ∧ k_ ≠ gb193))) (fun _ hk => hk.2) (.int .i64 0)) (fun _ hk => hk.2) (.int .i64 0)) (fun _ hk => hk.1.2))); (case aS => exact (below_size (by repeat (first | (with_reducible first | exact HB.out | apply below_alloc | apply pw_below_drewN | apply below_drew1 | refine below_set ?_ GE193.out) | exact HB.out)))); (case aL => have := LMc18.out; omega); intro v201 w21 ho hb hg hat; rw [← Ny200.out] at ho; have n0_ := Aside0.mk (blk_grown (g := gb193) (o := .cells #[.int .i64 (wrap64 (1 + (Int.tmod (Go.bits .and .i64 ((rd_T44 l0 x4_1).f0) 255) 4))), .int .i64 (wrap64 (1 + (Go.bits .and .i64 ((rd_T44 l0 x4_1).f1) 63))), .int .i64 0, .int .i64 0] 44 (0, 0)) (by (with_reducible repeat (first | refine blk_drewN ?_ _ | refine blk_drew ?_ | refine blk_alloc ?_ _)); refine blk_put (cs := #[.int .i64 (wrap64 (1 + (Int.tmod (Go.bits .and .i64 ((rd_T44 l0 x4_1).f0) 255) 4))), .int .i64 (wrap64 (1 + (Go.bits .and .i64 ((rd_T44 l0 x4_1).f1) 63))), .int .i64 0, .int .i64 (Go.bits .and .i64 ((rd_T44 l0 x4_1).f3) 127)]) ?_ 3 _ rfl; (with_reducible repeat (first | refine blk_drewN ?_ _ | refine blk_drew ?_ | refine blk_alloc ?_ _)); refine blk_put (cs := #[.int .i64 (wrap64 (1 + (Int.tmod (Go.bits .and .i64 ((rd_T44 l0 x4_1).f0) 255) 4))), .int .i64 (wrap64 (1 + (Go.bits .and .i64 ((rd_T44 l0 x4_1).f1) 63))), .int .i64 (wrap64 (1 + (Go.bits .and .i64 ((rd_T44 l0 x4_1).f2) 127))), .int .i64 (Go.bits .and .i64 ((rd_T44 l0 x4_1).f3) 127)]) ?_ 2 _ rfl; (with_reducible repeat (first | refine blk_drewN ?_ _ | refine blk_drew ?_ | refine blk_alloc ?_ _)); exact BK193.out) hg (Kd.R_away HO_3.out (fun _ hk => hk.2))); have n1_ := Aside0.mk (hb); have n2_ := Aside0.mk (ho); clear BK193; clear HB; clear HO_3; have BK193 := n0_; have HB := n1_; have HO202 := n2_; clear n0_ n1_ n2_; clear ho hb hg hat))
                        go_roundg kj1
                        case measure => have := HK1.out; have := HJ1.out; omega
                        case rel => exact ⟨(y200), (wrap64 (x4_1 + 1)), (by first | rfl | (simp; done) | (simp [*]; done)), H', ⟨by have := HK1.out; have := HJ1.out; omega⟩, ⟨by (with_reducible repeat (first | apply Kd.R_alloc | apply Kd.R_drewN | apply Kd.R_drew)); exact Kd.R_mono HO202.out (fun _ hk => trivial)⟩, ⟨by repeat (first | (with_reducible first | exact HB.out | apply below_alloc | apply pw_below_drewN | apply below_drew1 | refine below_set ?_ GE193.out) | exact HB.out)⟩⟩
                      · rw [if_neg c18] at H
                        exact absurd H (by simp)
                    · rw [if_neg c17] at H
                      have c17b0 : ((wrap64 (1 + (Int.tmod (Go.bits .and .i64 ((rd_T44 l0 x4_1).f0) 255) 4))) == 4) = false := beq_eq_false_iff_ne.mpr c17
                      have c17b1 : ((wrap64 (1 + (Int.tmod (Go.bits .and .i64 ((rd_T44 l0 x4_1).f0) 255) 4))) != 4) = true := bne_iff_ne.mpr c17
                      by_cases c22 : x3_1.length < 4398046511104
                      · rw [if_pos c22] at H
                        have LMc22 := Aside0.mk c22
                        clear c22
                        obtain ⟨y203, hy203⟩ : ∃ y_ : List (S44), y_ = (x3_1 ++ [(⟨wrap64 (1 + (Int.tmod (Go.bits .and .i64 ((rd_T44 l0 x4_1).f0) 255) 4)), wrap64 (1 + (Go.bits .and .i64 ((rd_T44 l0 x4_1).f1) 63)), wrap64 (1 + (Go.bits .and .i64 ((rd_T44 l0 x4_1).f2) 127)), Go.bits .and .i64 ((rd_T44 l0 x4_1).f3) 127⟩ : S44)]) := ⟨_, rfl⟩
                        replace H : (cotillionlaw09_Tidy.l0 kj1 l0 y203 (wrap64 (x4_1 + 1))) = some r := by first | (rw [hy203]; with_reducible exact H) | (have H2_ := (Option.bind_some _ _).symm.trans H; rw [hy203]; with_reducible exact H2_) | (have H2_ := (Option.bind_some _ _).symm.trans H; with_reducible exact H2_) | with_reducible exact H | (rw [hy203]; exact H) | exact H
                        have Ny203 := Aside0.mk hy203
                        clear hy203
                        have H' := Aside0.mk H
                        clear H
                        have p192 : 0 ≤ (x4_1 : Int) := of_decide_eq_true (by first | (with_reducible assumption) | assumption)
                        have q192 : x4_1 < (l0.length : Int) := of_decide_eq_true (by first | (with_reducible assumption) | assumption)
                        obtain ⟨ad192, e192, hx192_0, hx192_1, hx192_2, hx192_3⟩ := at_T44 HR0.out x4_1 p192 q192
                        cases e192
                        replace hx192_0 := (HB.out.cell (World.block_lt_of_cell? w _ hx192_0)).trans hx192_0
                        replace hx192_1 := (HB.out.cell (World.block_lt_of_cell? w _ hx192_1)).trans hx192_1
                        replace hx192_2 := (HB.out.cell (World.block_lt_of_cell? w _ hx192_2)).trans hx192_2
                        replace hx192_3 := (HB.out.cell (World.block_lt_of_cell? w _ hx192_3)).trans hx192_3
                        replace p192 := eq_true p192
                        replace q192 := eq_true q192
                        go_upto_region 9 with (first | ((with_reducible refine gate_dst (N := 5) rfl ?_); refine box_event ?hg (N := 5) ?hd (cs := #[.int .i64 0, .int .i64 0, .int .i64 0, .int .i64 0]) (t := 44) ?hr ?_; (case hd => rfl); (case hg => rfl); (case hr => first | (go_simp; done) | (go_simp; rfl)); intro gb193 hg w23 hbox hb; have n0_ := Aside0.mk (Kd.R_below (Kd.R_elderB (by (with_reducible repeat (first | apply Kd.R_alloc | apply Kd.R_drewN | apply Kd.R_drew)); exact HO_3.out) gb193 (Nat.le_of_eq hg.symm)) hb); have n1_ := Aside0.mk (below_step (by repeat (first | (with_reducible first | exact HB.out | apply below_alloc | apply pw_below_drewN | apply below_drew1) | exact HB.out)) hb); have n2_ := Aside0.mk (hbox); have n3_ := Aside0.mk ((by rw [hg]; exact (below_size (by repeat (first | (with_reducible first | exact HB.out | apply below_alloc | apply pw_below_drewN | apply below_drew1) | exact HB.out))) : w.heap.size ≤ gb193)); have n4_ := Aside0.mk ((by rw [hg]; exact (below_size (by repeat (first | (with_reducible first | exact HB.out | apply below_alloc | apply pw_below_drewN | apply below_drew1) | exact HB.out))) : w.heap.size ≤ gb193)); clear HO_3; clear HB; have HO_3 := n0_; have HB := n1_; have BK193 := n2_; have GW193 := n3_; have GE193 := n4_; clear n0_ n1_ n2_ n3_ n4_; clear hb hbox hg; have hcz24_0 : w23.cell? ⟨gb193, 0, none⟩ = some (.int .i64 0) := (blk_cell BK193.out 0).trans rfl; have hcz24_1 : w23.cell? ⟨gb193, 1, none⟩ = some (.int .i64 0) := (blk_cell BK193.out 1).trans rfl; have hcz24_2 : w23.cell? ⟨gb193, 2, none⟩ = some (.int .i64 0) := (blk_cell BK193.out 2).trans rfl; have hcz24_3 : w23.cell? ⟨gb193, 3, none⟩ = some (.int .i64 0) := (blk_cell BK193.out 3).trans rfl; have hfz24_0 := blk_frozen BK193.out 0; have hfz24_1 := blk_frozen BK193.out 1; have hfz24_2 := blk_frozen BK193.out 2; have hfz24_3 := blk_frozen BK193.out 3))
                        have t0_ := (blk_put (cs' := #[.int .i64 (wrap64 (1 + (Int.tmod (Go.bits .and .i64 ((rd_T44 l0 x4_1).f0) 255) 4))), .int .i64 (wrap64 (1 + (Go.bits .and .i64 ((rd_T44 l0 x4_1).f1) 63))), .int .i64 (wrap64 (1 + (Go.bits .and .i64 ((rd_T44 l0 x4_1).f2) 127))), .int .i64 (Go.bits .and .i64 ((rd_T44 l0 x4_1).f3) 127)]) (blk_put (cs' := #[.int .i64 (wrap64 (1 + (Int.tmod (Go.bits .and .i64 ((rd_T44 l0 x4_1).f0) 255) 4))), .int .i64 (wrap64 (1 + (Go.bits .and .i64 ((rd_T44 l0 x4_1).f1) 63))), .int .i64 (wrap64 (1 + (Go.bits .and .i64 ((rd_T44 l0 x4_1).f2) 127))), .int .i64 ((rd_T44 l0 x4_1).f3)]) (blk_put (cs' := #[.int .i64 (wrap64 (1 + (Int.tmod (Go.bits .and .i64 ((rd_T44 l0 x4_1).f0) 255) 4))), .int .i64 (wrap64 (1 + (Go.bits .and .i64 ((rd_T44 l0 x4_1).f1) 63))), .int .i64 ((rd_T44 l0 x4_1).f2), .int .i64 ((rd_T44 l0 x4_1).f3)]) (blk_put (cs' := #[.int .i64 (wrap64 (1 + (Int.tmod (Go.bits .and .i64 ((rd_T44 l0 x4_1).f0) 255) 4))), .int .i64 ((rd_T44 l0 x4_1).f1), .int .i64 ((rd_T44 l0 x4_1).f2), .int .i64 ((rd_T44 l0 x4_1).f3)]) (blk_put (cs' := #[.int .i64 ((rd_T44 l0 x4_1).f0), .int .i64 ((rd_T44 l0 x4_1).f1), .int .i64 ((rd_T44 l0 x4_1).f2), .int .i64 ((rd_T44 l0 x4_1).f3)]) (blk_put (cs' := #[.int .i64 ((rd_T44 l0 x4_1).f0), .int .i64 ((rd_T44 l0 x4_1).f1), .int .i64 ((rd_T44 l0 x4_1).f2), .int .i64 (0)]) (blk_put (cs' := #[.int .i64 ((rd_T44 l0 x4_1).f0), .int .i64 ((rd_T44 l0 x4_1).f1), .int .i64 (0), .int .i64 (0)]) (blk_put (cs' := #[.int .i64 ((rd_T44 l0 x4_1).f0), .int .i64 (0), .int .i64 (0), .int .i64 (0)]) BK193.out 0 (.int .i64 ((rd_T44 l0 x4_1).f0)) rfl) 1 (.int .i64 ((rd_T44 l0 x4_1).f1)) rfl) 2 (.int .i64 ((rd_T44 l0 x4_1).f2)) rfl) 3 (.int .i64 ((rd_T44 l0 x4_1).f3)) rfl) 0 (.int .i64 (wrap64 (1 + (Int.tmod (Go.bits .and .i64 ((rd_T44 l0 x4_1).f0) 255) 4)))) rfl) 1 (.int .i64 (wrap64 (1 + (Go.bits .and .i64 ((rd_T44 l0 x4_1).f1) 63)))) rfl) 2 (.int .i64 (wrap64 (1 + (Go.bits .and .i64 ((rd_T44 l0 x4_1).f2) 127)))) rfl) 3 (.int .i64 (Go.bits .and .i64 ((rd_T44 l0 x4_1).f3) 127)) rfl)
                        have t1_ := (Kd.R_far (p := ⟨gb193, 3, none⟩) (Kd.R_far (p := ⟨gb193, 2, none⟩) (Kd.R_far (p := ⟨gb193, 1, none⟩) (Kd.R_far (p := ⟨gb193, 0, none⟩) (Kd.R_far (p := ⟨gb193, 3, none⟩) (Kd.R_far (p := ⟨gb193, 2, none⟩) (Kd.R_far (p := ⟨gb193, 1, none⟩) (Kd.R_far (p := ⟨gb193, 0, none⟩) HO_3.out (fun _ hk => hk.2) (.int .i64 ((rd_T44 l0 x4_1).f0))) (fun _ hk => hk.2) (.int .i64 ((rd_T44 l0 x4_1).f1))) (fun _ hk => hk.2) (.int .i64 ((rd_T44 l0 x4_1).f2))) (fun _ hk => hk.2) (.int .i64 ((rd_T44 l0 x4_1).f3))) (fun _ hk => hk.2) (.int .i64 (wrap64 (1 + (Int.tmod (Go.bits .and .i64 ((rd_T44 l0 x4_1).f0) 255) 4))))) (fun _ hk => hk.2) (.int .i64 (wrap64 (1 + (Go.bits .and .i64 ((rd_T44 l0 x4_1).f1) 63))))) (fun _ hk => hk.2) (.int .i64 (wrap64 (1 + (Go.bits .and .i64 ((rd_T44 l0 x4_1).f2) 127))))) (fun _ hk => hk.2) (.int .i64 (Go.bits .and .i64 ((rd_T44 l0 x4_1).f3) 127)))
                        have t2_ := (below_set (j := 3) (v := (.int .i64 (Go.bits .and .i64 ((rd_T44 l0 x4_1).f3) 127))) (below_set (j := 2) (v := (.int .i64 (wrap64 (1 + (Go.bits .and .i64 ((rd_T44 l0 x4_1).f2) 127))))) (below_set (j := 1) (v := (.int .i64 (wrap64 (1 + (Go.bits .and .i64 ((rd_T44 l0 x4_1).f1) 63))))) (below_set (j := 0) (v := (.int .i64 (wrap64 (1 + (Int.tmod (Go.bits .and .i64 ((rd_T44 l0 x4_1).f0) 255) 4))))) (below_set (j := 3) (v := (.int .i64 ((rd_T44 l0 x4_1).f3))) (below_set (j := 2) (v := (.int .i64 ((rd_T44 l0 x4_1).f2))) (below_set (j := 1) (v := (.int .i64 ((rd_T44 l0 x4_1).f1))) (below_set (j := 0) (v := (.int .i64 ((rd_T44 l0 x4_1).f0))) HB.out GE193.out) GE193.out) GE193.out) GE193.out) GE193.out) GE193.out) GE193.out) GE193.out)
                        generalize hWc_ : ((((((((w23.setCell ⟨gb193, 0, none⟩ (.int .i64 ((rd_T44 l0 x4_1).f0))).setCell ⟨gb193, 1, none⟩ (.int .i64 ((rd_T44 l0 x4_1).f1))).setCell ⟨gb193, 2, none⟩ (.int .i64 ((rd_T44 l0 x4_1).f2))).setCell ⟨gb193, 3, none⟩ (.int .i64 ((rd_T44 l0 x4_1).f3))).setCell ⟨gb193, 0, none⟩ (.int .i64 (wrap64 (1 + (Int.tmod (Go.bits .and .i64 ((rd_T44 l0 x4_1).f0) 255) 4))))).setCell ⟨gb193, 1, none⟩ (.int .i64 (wrap64 (1 + (Go.bits .and .i64 ((rd_T44 l0 x4_1).f1) 63))))).setCell ⟨gb193, 2, none⟩ (.int .i64 (wrap64 (1 + (Go.bits .and .i64 ((rd_T44 l0 x4_1).f2) 127))))).setCell ⟨gb193, 3, none⟩ (.int .i64 (Go.bits .and .i64 ((rd_T44 l0 x4_1).f3) 127))) = wc193 at *
                        have n0_ := Aside0.mk t0_
                        have n1_ := Aside0.mk t1_
                        have n2_ := Aside0.mk t2_
                        clear t0_ t1_ t2_ hWc_ BK193 HB HO_3
                        (try clear hcz24_0 hfz24_0 hcz24_1 hfz24_1 hcz24_2 hfz24_2 hcz24_3 hfz24_3)
                        have BK193 := n0_
                        have HO_3 := n1_
                        have HB := n2_
                        clear n0_ n1_ n2_
                        have hcy_0 : wc193.cell? ⟨gb193, 0, none⟩ = some (.int .i64 (wrap64 (1 + (Int.tmod (Go.bits .and .i64 ((rd_T44 l0 x4_1).f0) 255) 4)))) := (blk_cell BK193.out 0).trans rfl
                        have hfy_0 := blk_frozen BK193.out 0
                        have hcy_1 : wc193.cell? ⟨gb193, 1, none⟩ = some (.int .i64 (wrap64 (1 + (Go.bits .and .i64 ((rd_T44 l0 x4_1).f1) 63)))) := (blk_cell BK193.out 1).trans rfl
                        have hfy_1 := blk_frozen BK193.out 1
                        have hcy_2 : wc193.cell? ⟨gb193, 2, none⟩ = some (.int .i64 (wrap64 (1 + (Go.bits .and .i64 ((rd_T44 l0 x4_1).f2) 127)))) := (blk_cell BK193.out 2).trans rfl
                        have hfy_2 := blk_frozen BK193.out 2
                        have hcy_3 : wc193.cell? ⟨gb193, 3, none⟩ = some (.int .i64 (Go.bits .and .i64 ((rd_T44 l0 x4_1).f3) 127)) := (blk_cell BK193.out 3).trans rfl
                        have hfy_3 := blk_frozen BK193.out 3
                        go_wp2_with (first | ((with_reducible refine gate_builtin (b := .append) (xs := #[.tmp 52, .tmp 54]) rfl ?_); at_builtin; refine Kd.R_append k44 (w0 := w) w.heap.size rfl (.tmp 52) (.tmp 54) 41 44 (.agg #[(.int .i64 0), (.int .i64 0), (.int .i64 0), (.int .i64 0)]) 32 rfl Try.underlying41 info44 rfl (by decide) (by omega) u3 x3_1 (⟨wrap64 (1 + (Int.tmod (Go.bits .and .i64 ((rd_T44 l0 x4_1).f0) 255) 4)), wrap64 (1 + (Go.bits .and .i64 ((rd_T44 l0 x4_1).f1) 63)), wrap64 (1 + (Go.bits .and .i64 ((rd_T44 l0 x4_1).f2) 127)), Go.bits .and .i64 ((rd_T44 l0 x4_1).f3) 127⟩ : S44) [.int .i64 (wrap64 (1 + (Int.tmod (Go.bits .and .i64 ((rd_T44 l0 x4_1).f0) 255) 4))), .int .i64 (wrap64 (1 + (Go.bits .and .i64 ((rd_T44 l0 x4_1).f1) 63))), .int .i64 (wrap64 (1 + (Go.bits .and .i64 ((rd_T44 l0 x4_1).f2) 127))), .int .i64 (Go.bits .and .i64 ((rd_T44 l0 x4_1).f3) 127)] (fun k_ => k_ ≠ gb193) (fun _ => False) rfl (by first | (go_simp; done) | (go_simp; rfl)) ?aP (fun _ hk => hk.elim) ?aF ?aO ?aB ?aS ?aL ?_; (case aP => exact k44_mkM _ _ _ (⟨wrap64 (1 + (Int.tmod (Go.bits .and .i64 ((rd_T44 l0 x4_1).f0) 255) 4)), wrap64 (1 + (Go.bits .and .i64 ((rd_T44 l0 x4_1).f1) 63)), wrap64 (1 + (Go.bits .and .i64 ((rd_T44 l0 x4_1).f2) 127)), Go.bits .and .i64 ((rd_T44 l0 x4_1).f3) 127⟩ : S44)); (case aB => exact (by repeat (first | (with_reducible first | exact HB.out | apply below_alloc | apply pw_below_drewN | apply below_drew1 | refine below_set ?_ GE193.out) | exact HB.out))); (case aF => exact (fun k_ hk => Kd.freshB (g := gb193) (o := .cells #[.int .i64 (wrap64 (1 + (Int.tmod (Go.bits .and .i64 ((rd_T44 l0 x4_1).f0) 255) 4))), .int .i64 (wrap64 (1 + (Go.bits .and .i64 ((rd_T44 l0 x4_1).f1) 63))), .int .i64 (wrap64 (1 + (Go.bits .and .i64 ((rd_T44 l0 x4_1).f2) 127))), .int .i64 (Go.bits .and .i64 ((rd_T44 l0 x4_1).f3) 127)] 44 (0, 0)) (by (with_reducible repeat (first | refine blk_drewN ?_ _ | refine blk_drew ?_ | refine blk_alloc ?_ _)); exact BK193.out) k_ hk)); (case aO => exact (by (with_reducible repeat (first | apply Kd.R_alloc | apply Kd.R_drewN | apply Kd.R_drew)); exact Kd.R_mono (Kd.R_mono HO_3.out (fun k_ hk => (⟨hk, hk.2⟩ : _ ∧ k_ ≠ gb193))) (fun _ hk => hk.1.2))); (case aS => exact (below_size (by repeat (first | (with_reducible first | exact HB.out | apply below_alloc | apply pw_below_drewN | apply below_drew1 | refine below_set ?_ GE193.out) | exact HB.out)))); (case aL => have := LMc22.out; omega); intro v204 w25 ho hb hg hat; rw [← Ny203.out] at ho; have n0_ := Aside0.mk (blk_grown (g := gb193) (o := .cells #[.int .i64 (wrap64 (1 + (Int.tmod (Go.bits .and .i64 ((rd_T44 l0 x4_1).f0) 255) 4))), .int .i64 (wrap64 (1 + (Go.bits .and .i64 ((rd_T44 l0 x4_1).f1) 63))), .int .i64 (wrap64 (1 + (Go.bits .and .i64 ((rd_T44 l0 x4_1).f2) 127))), .int .i64 (Go.bits .and .i64 ((rd_T44 l0 x4_1).f3) 127)] 44 (0, 0)) (by (with_reducible repeat (first | refine blk_drewN ?_ _ | refine blk_drew ?_ | refine blk_alloc ?_ _)); exact BK193.out) hg (Kd.R_away HO_3.out (fun _ hk => hk.2))); have n1_ := Aside0.mk (hb); have n2_ := Aside0.mk (ho); clear BK193; clear HB; clear HO_3; have BK193 := n0_; have HB := n1_; have HO205 := n2_; clear n0_ n1_ n2_; clear ho hb hg hat))
                        go_roundg kj1
                        case measure => have := HK1.out; have := HJ1.out; omega
                        case rel => exact ⟨(y203), (wrap64 (x4_1 + 1)), (by first | rfl | (simp; done) | (simp [*]; done)), H', ⟨by have := HK1.out; have := HJ1.out; omega⟩, ⟨by (with_reducible repeat (first | apply Kd.R_alloc | apply Kd.R_drewN | apply Kd.R_drew)); exact Kd.R_mono HO205.out (fun _ hk => trivial)⟩, ⟨by repeat (first | (with_reducible first | exact HB.out | apply below_alloc | apply pw_below_drewN | apply below_drew1 | refine below_set ?_ GE193.out) | exact HB.out)⟩⟩
                      · rw [if_neg c22] at H
                        exact absurd H (by simp)
              · rw [if_neg c6] at H
                exact absurd H (by simp)
            · rw [if_neg c5] at H
              exact absurd H (by simp)
          · replace c4 := Bool.eq_false_iff.mpr c4
            subst c4
            have H1 : (some x3_1) = some r := by rw [if_neg (show ¬ (false = true) by decide)] at H; exact H
            clear H
            have H := H1
            clear H1
            obtain rfl := Option.some.inj H
            simp only [Option.some.injEq, Prod.mk.injEq] at H
            obtain ⟨rfl⟩ := H
            go_wp2
            go_ret
            exact ⟨_, by first | rfl | (simp [errW_none, errW_some] <;> rfl) | (simp [*, errW_none, errW_some] <;> rfl), by (with_reducible repeat (first | apply Kd.R_alloc | apply Kd.R_drewN | apply Kd.R_drew)); exact HO_3.out, by repeat (first | (with_reducible first | exact HB.out | apply below_alloc | apply pw_below_drewN | apply below_drew1) | exact HB.out)⟩

/-! ### cotillionlaw09_Same: function 24 -/
def cotillionlaw09_Same.l0 : Nat → List (S44) → List (S77) → Int → Int → Option (Int)
  | 0, _, _, _, _ => none
  | k + 1, x0, x1, x12, x13 => if x13 < x12 then (if 0 ≤ x13 then (if x13 < (x0.length : Int) then (if x13 < (x1.length : Int) then (if (!(((rd_T44 x0 x13).f0) == ((rd_T77 x1 x13).f0)) || (!(((rd_T44 x0 x13).f1) == ((rd_T77 x1 x13).f1)) || (!(((rd_T44 x0 x13).f2) == ((rd_T77 x1 x13).f2)) || (!(((rd_T44 x0 x13).f3) == ((rd_T77 x1 x13).f3)))))) = true then (some (-1)) else (cotillionlaw09_Same.l0 k x0 x1 x12 (wrap64 (x13 + 1)))) else (none)) else (none)) else (none)) else (some 0)
def cotillionlaw09_Same.f (k : Nat) (l0 : List (S44)) (l1 : List (S77)) : Option (Int) := if (l0.length : Int) = (l1.length : Int) then (cotillionlaw09_Same.l0 k l0 l1 (l1.length : Int) 0) else (some (-1))
theorem cotillionlaw09_Same.mono_l : ∀ k, (∀ y0 y1 y2 y3, LeO (cotillionlaw09_Same.l0 k y0 y1 y2 y3) (cotillionlaw09_Same.l0 (k + 1) y0 y1 y2 y3))
  | 0 => fun _ _ _ _ r h => by simp [cotillionlaw09_Same.l0] at h
  | k + 1 => by
    have ih0 := cotillionlaw09_Same.mono_l k
    · intro y0 y1 y2 y3
      unfold cotillionlaw09_Same.l0
      repeat' first
      | (with_reducible exact ih0 _ _ _ _)
      | (with_reducible exact LeO.refl _)
      | (with_reducible exact LeO.none _)
      | (with_reducible refine LeO.ite ?_ ?_)
      | (with_reducible refine LeO.bind ?_ (fun _ => ?_))
      | exact ih0 _ _ _ _
      | exact LeO.none _
      | refine LeO.ite ?_ ?_
      | refine LeO.bind ?_ (fun _ => ?_)
theorem cotillionlaw09_Same.mono : ∀ a0 a1 k, LeO (cotillionlaw09_Same.f k a0 a1) (cotillionlaw09_Same.f (k + 1) a0 a1) := by
  intro a0 a1 k
  have ih0 := cotillionlaw09_Same.mono_l k
  unfold cotillionlaw09_Same.f
  repeat' first
      | (with_reducible exact ih0 _ _ _ _)
      | (with_reducible exact LeO.refl _)
      | (with_reducible exact LeO.none _)
      | (with_reducible refine LeO.ite ?_ ?_)
      | (with_reducible refine LeO.bind ?_ (fun _ => ?_))
      | exact ih0 _ _ _ _
      | exact LeO.none _
      | refine LeO.ite ?_ ?_
      | refine LeO.bind ?_ (fun _ => ?_)
set_option maxHeartbeats 8000000 in
set_option maxRecDepth 100000 in
theorem cotillionlaw09_Same.calls (k : Nat) (A0 : Option Addr) (c0 : Nat) (l0 : List (S44)) (A1 : Option Addr) (c1 : Nat) (l1 : List (S77)) (r : Int) (w : World) (hr0 : Kd.C k44 w A0 l0.length l0) (hc0 : l0.length ≤ c0) (hr1 : Kd.C k77 w A1 l1.length l1) (hc1 : l1.length ≤ c1) (h : cotillionlaw09_Same.f k l0 l1 = some r) :
    Calls Try.prog 24 #[.slice A0 l0.length c0, .slice A1 l1.length c1] w fun e w' => e = .returned (.int .i64 r) ∧ Drawn0 w w' := by
  have hu44 := Try.underlying44
  have hu77 := Try.underlying77
  have HR0 := Aside0.mk hr0
  have HC0 := Aside0.mk hc0
  clear hr0 hc0
  have HR1 := Aside0.mk hr1
  have HC1 := Aside0.mk hc1
  clear hr1 hc1
  have H : (if (l0.length : Int) = (l1.length : Int) then (cotillionlaw09_Same.l0 k l0 l1 (l1.length : Int) 0) else (some (-1))) = some r := h
  clear h
  by_cases c3 : (l0.length : Int) = (l1.length : Int)
  · rw [if_pos c3] at H
    have c3b0 : ((l0.length : Int) == (l1.length : Int)) = true := beq_iff_eq.mpr c3
    have c3b1 : ((l0.length : Int) != (l1.length : Int)) = false := bne_eq_false_iff_eq.mpr c3
    have c3b2 : (l0.length == l1.length) = true := by first | simpa using c3 | (simp at c3 ⊢; omega)
    clear c3
    have H' := Aside0.mk H
    clear H
    go_enter Try.func24, Try.ntmps24
    go_wp2
    repeat (go_quiet (fail); try go_wp2)
    go_loopg [13] k (fun kq v13 w' => ∃ (x13_1 : Int), v13 = .int .i64 x13_1 ∧ Aside0 (cotillionlaw09_Same.l0 kq l0 l1 (l1.length : Int) x13_1 = some r) ∧ Aside0 (kq ≤ k) ∧ Drawn0 w w')
    case atStart => exact ⟨(0), (by first | rfl | (simp; done) | (simp [*]; done)), H', ⟨Nat.le_refl _⟩, by repeat (first | exact Drawn0.refl _ | apply Drawn0.step)⟩
    case round =>
      clear H'
      try clear c1
      try clear c2
      try clear p2
      try clear c3
      try clear c3b0
      try clear c3b1
      try clear c3b2
      obtain ⟨x13_1, rfl, HA, HK1, ⟨m1, rfl⟩⟩ := hrel
      cases gk with
      | zero => exact absurd HA.out (by simp [cotillionlaw09_Same.l0])
      | succ k1 =>
        have H := HA.out
        clear HA
        simp only [cotillionlaw09_Same.l0] at H
        by_cases c4 : x13_1 < (l1.length : Int)
        · rw [if_pos c4] at H
          have c4b0 : decide (x13_1 < (l1.length : Int)) = true := decide_eq_true c4
          clear c4
          by_cases c5 : 0 ≤ x13_1
          · rw [if_pos c5] at H
            have c5b0 : decide (0 ≤ x13_1) = true := decide_eq_true c5
            clear c5
            by_cases c6 : x13_1 < (l0.length : Int)
            · rw [if_pos c6] at H
              have c6b0 : decide (x13_1 < (l0.length : Int)) = true := decide_eq_true c6
              clear c6
              by_cases c7 : x13_1 < (l1.length : Int)
              · rw [if_pos c7] at H
                have c7b0 : decide (x13_1 < (l1.length : Int)) = true := decide_eq_true c7
                clear c7
                by_cases c8 : (!(((rd_T44 l0 x13_1).f0) == ((rd_T77 l1 x13_1).f0)) || (!(((rd_T44 l0 x13_1).f1) == ((rd_T77 l1 x13_1).f1)) || (!(((rd_T44 l0 x13_1).f2) == ((rd_T77 l1 x13_1).f2)) || (!(((rd_T44 l0 x13_1).f3) == ((rd_T77 l1 x13_1).f3)))))) = true
                · rw [if_pos c8] at H
                  have c8b0 : (!(((rd_T44 l0 x13_1).f0) == ((rd_T77 l1 x13_1).f0)) || (!(((rd_T44 l0 x13_1).f1) == ((rd_T77 l1 x13_1).f1)) || (!(((rd_T44 l0 x13_1).f2) == ((rd_T77 l1 x13_1).f2)) || (!(((rd_T44 l0 x13_1).f3) == ((rd_T77 l1 x13_1).f3)))))) = true := c8
                  clear c8
                  obtain rfl := Option.some.inj H
                  simp only [Option.some.injEq, Prod.mk.injEq] at H
                  obtain ⟨rfl⟩ := H
                  have p206 : 0 ≤ (x13_1 : Int) := of_decide_eq_true (by first | (with_reducible assumption) | assumption)
                  have q206 : x13_1 < (l0.length : Int) := of_decide_eq_true (by first | (with_reducible assumption) | assumption)
                  obtain ⟨ad206, e206, hx206_0, hx206_1, hx206_2, hx206_3⟩ := at_T44 HR0.out x13_1 p206 q206
                  cases e206
                  replace p206 := eq_true p206
                  replace q206 := eq_true q206
                  have p207 : 0 ≤ (x13_1 : Int) := of_decide_eq_true (by first | (with_reducible assumption) | assumption)
                  have q207 : x13_1 < (l1.length : Int) := of_decide_eq_true (by first | (with_reducible assumption) | assumption)
                  obtain ⟨ad207, e207, hx207_0, hx207_1, hx207_2, hx207_3⟩ := at_T77 HR1.out x13_1 p207 q207
                  cases e207
                  replace p207 := eq_true p207
                  replace q207 := eq_true q207
                  go_wp2
                  repeat (go_quiet (fail); try go_wp2)
                  go_ret
                  exact ⟨by first | rfl | (simp; done) | (simp [*]; done), by repeat (first | exact Drawn0.refl _ | apply Drawn0.step)⟩
                · rw [if_neg c8] at H
                  have c8b0 : (!(((rd_T44 l0 x13_1).f0) == ((rd_T77 l1 x13_1).f0)) || (!(((rd_T44 l0 x13_1).f1) == ((rd_T77 l1 x13_1).f1)) || (!(((rd_T44 l0 x13_1).f2) == ((rd_T77 l1 x13_1).f2)) || (!(((rd_T44 l0 x13_1).f3) == ((rd_T77 l1 x13_1).f3)))))) = false := by simpa using c8
                  clear c8
                  have H' := Aside0.mk H
                  clear H
                  have p206 : 0 ≤ (x13_1 : Int) := of_decide_eq_true (by first | (with_reducible assumption) | assumption)
                  have q206 : x13_1 < (l0.length : Int) := of_decide_eq_true (by first | (with_reducible assumption) | assumption)
                  obtain ⟨ad206, e206, hx206_0, hx206_1, hx206_2, hx206_3⟩ := at_T44 HR0.out x13_1 p206 q206
                  cases e206
                  replace p206 := eq_true p206
                  replace q206 := eq_true q206
                  have p207 : 0 ≤ (x13_1 : Int) := of_decide_eq_true (by first | (with_reducible assumption) | assumption)
                  have q207 : x13_1 < (l1.length : Int) := of_decide_eq_true (by first | (with_reducible assumption) | assumption)
                  obtain ⟨ad207, e207, hx207_0, hx207_1, hx207_2, hx207_3⟩ := at_T77 HR1.out x13_1 p207 q207
                  cases e207
                  replace p207 := eq_true p207
                  replace q207 := eq_true q207
                  go_wp2
                  repeat (go_quiet (fail); try go_wp2)
                  go_roundg k1
                  case measure => have := HK1.out; omega
                  case rel => exact ⟨(wrap64 (x13_1 + 1)), (by first | rfl | (simp; done) | (simp [*]; done)), H', ⟨by have := HK1.out; omega⟩, by repeat (first | exact Drawn0.refl _ | apply Drawn0.step)⟩
              · rw [if_neg c7] at H
                exact absurd H (by simp)
            · rw [if_neg c6] at H
              exact absurd H (by simp)
          · rw [if_neg c5] at H
            exact absurd H (by simp)
        · rw [if_neg c4] at H
          have c4b0 : decide (x13_1 < (l1.length : Int)) = false := decide_eq_false c4
          clear c4
          obtain rfl := Option.some.inj H
          simp only [Option.some.injEq, Prod.mk.injEq] at H
          obtain ⟨rfl⟩ := H
          go_wp2
          repeat (go_quiet (fail); try go_wp2)
          go_ret
          exact ⟨by first | rfl | (simp; done) | (simp [*]; done), by repeat (first | exact Drawn0.refl _ | apply Drawn0.step)⟩
  · rw [if_neg c3] at H
    have c3b0 : ((l0.length : Int) == (l1.length : Int)) = false := beq_eq_false_iff_ne.mpr c3
    have c3b1 : ((l0.length : Int) != (l1.length : Int)) = true := bne_iff_ne.mpr c3
    have c3b2 : (l0.length == l1.length) = false := by first | simpa using c3 | (simp at c3 ⊢; omega)
    obtain rfl := Option.some.inj H
    simp only [Option.some.injEq, Prod.mk.injEq] at H
    obtain ⟨rfl⟩ := H
    go_enter Try.func24, Try.ntmps24
    go_wp2
    repeat (go_quiet (fail); try go_wp2)
    go_ret
    exact ⟨by first | rfl | (simp; done) | (simp [*]; done), by repeat (first | exact Drawn0.refl _ | apply Drawn0.step)⟩

/-! ### cotillionlaw09_Told: function 25 -/
def cotillionlaw09_Told.l0 : Nat → List (S77) → List (S44) → Int → Int → Option ((List (S77)))
  | 0, _, _, _, _ => none
  | k + 1, x3, x7, x8, x9 => if x9 < x8 then (if 0 ≤ x9 then (if x9 < (x7.length : Int) then (if x3.length < 4398046511104 then (cotillionlaw09_Told.l0 k (x3 ++ [(⟨(rd_T44 x7 x9).f0, (rd_T44 x7 x9).f1, (rd_T44 x7 x9).f2, (rd_T44 x7 x9).f3⟩ : S77)]) x7 x8 (wrap64 (x9 + 1))) else (none)) else (none)) else (none)) else (some x3)
def cotillionlaw09_Told.f (k : Nat) (l0 : List (S44)) : Option ((List (S77))) := cotillionlaw09_Told.l0 k (([] : List (S77))) l0 (l0.length : Int) 0
theorem cotillionlaw09_Told.mono_l : ∀ k, (∀ y0 y1 y2 y3, LeO (cotillionlaw09_Told.l0 k y0 y1 y2 y3) (cotillionlaw09_Told.l0 (k + 1) y0 y1 y2 y3))
  | 0 => fun _ _ _ _ r h => by simp [cotillionlaw09_Told.l0] at h
  | k + 1 => by
    have ih0 := cotillionlaw09_Told.mono_l k
    · intro y0 y1 y2 y3
      unfold cotillionlaw09_Told.l0
      repeat' first
      | (with_reducible exact ih0 _ _ _ _)
      | (with_reducible exact LeO.refl _)
      | (with_reducible exact LeO.none _)
      | (with_reducible refine LeO.ite ?_ ?_)
      | (with_reducible refine LeO.bind ?_ (fun _ => ?_))
      | exact ih0 _ _ _ _
      | exact LeO.none _
      | refine LeO.ite ?_ ?_
      | refine LeO.bind ?_ (fun _ => ?_)
theorem cotillionlaw09_Told.mono : ∀ a0 k, LeO (cotillionlaw09_Told.f k a0) (cotillionlaw09_Told.f (k + 1) a0) := by
  intro a0 k
  have ih0 := cotillionlaw09_Told.mono_l k
  unfold cotillionlaw09_Told.f
  repeat' first
      | (with_reducible exact ih0 _ _ _ _)
      | (with_reducible exact LeO.refl _)
      | (with_reducible exact LeO.none _)
      | (with_reducible refine LeO.ite ?_ ?_)
      | (with_reducible refine LeO.bind ?_ (fun _ => ?_))
      | exact ih0 _ _ _ _
      | exact LeO.none _
      | refine LeO.ite ?_ ?_
      | refine LeO.bind ?_ (fun _ => ?_)
set_option maxHeartbeats 8000000 in
set_option maxRecDepth 100000 in
theorem cotillionlaw09_Told.calls (k : Nat) (A0 : Option Addr) (c0 : Nat) (l0 : List (S44)) (r : List (S77)) (w : World) (hr0 : Kd.C k44 w A0 l0.length l0) (hc0 : l0.length ≤ c0) (h : cotillionlaw09_Told.f k l0 = some r) :
    Calls Try.prog 25 #[.slice A0 l0.length c0] w fun e w' => ∃ v0_ : Value, e = .returned (v0_) ∧ Kd.R k77 77 w' w.heap.size (fun _ => True) v0_ r ∧ Below w.heap.size w w' := by
  have hu44 := Try.underlying44
  have HR0 := Aside0.mk hr0
  have HC0 := Aside0.mk hc0
  clear hr0 hc0
  have HB := Aside0.mk (Below.refl w.heap.size w)
  have H : (cotillionlaw09_Told.l0 k (([] : List (S77))) l0 (l0.length : Int) 0) = some r := h
  clear h
  obtain ⟨y208, hy208⟩ : ∃ y_ : List (S77), y_ = (([] : List (S77))) := ⟨_, rfl⟩
  replace H : (cotillionlaw09_Told.l0 k y208 l0 (l0.length : Int) 0) = some r := by first | (rw [hy208]; with_reducible exact H) | (have H2_ := (Option.bind_some _ _).symm.trans H; rw [hy208]; with_reducible exact H2_) | (have H2_ := (Option.bind_some _ _).symm.trans H; with_reducible exact H2_) | with_reducible exact H | (rw [hy208]; exact H) | exact H
  have Ny208 := Aside0.mk hy208
  clear hy208
  have H' := Aside0.mk H
  clear H
  go_enter Try.func25, Try.ntmps25
  go_wp2_with (first | ((with_reducible refine gate_dst (N := 6) rfl ?_); refine Kd.R_lit k77 _ 77 ?hg (N := 6) ?hd (xs := ([] : List (S77))) (inner := []) (ok := fun _ => True) (okp := fun _ => True) ?hr ?hp (fun _ hk => hk) trivial (Below.refl _ _) (Nat.le_refl _) (by simp) ?_; (case hd => rfl); (case hg => rfl); (case hr => first | (go_simp; done) | (go_simp; rfl)); (case hp => exact (Reps.none _ _)); intro v209 w2 ho3 hb hg_ hnew_; clear hg_ hnew_; (first | rw [← Ny208.out] at ho3 | (simp only [Int.reduceToNat] at ho3; rw [← Ny208.out] at ho3)); have n0_ := Aside0.mk (Kd.R_lower ho3 (below_size (by repeat (first | (with_reducible first | exact HB.out | apply below_alloc | apply pw_below_drewN | apply below_drew1) | exact HB.out)))); have n1_ := Aside0.mk (below_step (by repeat (first | (with_reducible first | exact HB.out | apply below_alloc | apply pw_below_drewN | apply below_drew1) | exact HB.out)) hb); clear HB; have HO210 := n0_; have HB := n1_; clear n0_ n1_; clear hb ho3))
  go_loopg [3, 9] k (fun kq v3 v9 w' => ∃ (x3_1 : List (S77)) (x9_1 : Int), v9 = .int .i64 x9_1 ∧ Aside0 (cotillionlaw09_Told.l0 kq x3_1 l0 (l0.length : Int) x9_1 = some r) ∧ Aside0 (kq ≤ k) ∧ Aside0 (Kd.R k77 77 w' w.heap.size (fun _ => True) v3 x3_1) ∧ Aside0 (Below w.heap.size w w'))
  case atStart => exact ⟨(y208), (0), (by first | rfl | (simp; done) | (simp [*]; done)), H', ⟨Nat.le_refl _⟩, ⟨by (with_reducible repeat (first | apply Kd.R_alloc | apply Kd.R_drewN | apply Kd.R_drew)); exact HO210.out⟩, ⟨by repeat (first | (with_reducible first | exact HB.out | apply below_alloc | apply pw_below_drewN | apply below_drew1) | exact HB.out)⟩⟩
  case round =>
    clear H'
    try clear c2
    try clear p2
    obtain ⟨x3_1, x9_1, rfl, HA, HK1, HO_3, HB⟩ := hrel
    cases gk with
    | zero => exact absurd HA.out (by simp [cotillionlaw09_Told.l0])
    | succ k1 =>
      have H := HA.out
      clear HA
      simp only [cotillionlaw09_Told.l0] at H
      by_cases c4 : x9_1 < (l0.length : Int)
      · rw [if_pos c4] at H
        have c4b0 : decide (x9_1 < (l0.length : Int)) = true := decide_eq_true c4
        clear c4
        by_cases c5 : 0 ≤ x9_1
        · rw [if_pos c5] at H
          have c5b0 : decide (0 ≤ x9_1) = true := decide_eq_true c5
          clear c5
          by_cases c6 : x9_1 < (l0.length : Int)
          · rw [if_pos c6] at H
            have c6b0 : decide (x9_1 < (l0.length : Int)) = true := decide_eq_true c6
            clear c6
            by_cases c7 : x3_1.length < 4398046511104
            · rw [if_pos c7] at H
              have LMc7 := Aside0.mk c7
              clear c7
              obtain ⟨y213, hy213⟩ : ∃ y_ : List (S77), y_ = (x3_1 ++ [(⟨(rd_T44 l0 x9_1).f0, (rd_T44 l0 x9_1).f1, (rd_T44 l0 x9_1).f2, (rd_T44 l0 x9_1).f3⟩ : S77)]) := ⟨_, rfl⟩
              replace H : (cotillionlaw09_Told.l0 k1 y213 l0 (l0.length : Int) (wrap64 (x9_1 + 1))) = some r := by first | (rw [hy213]; with_reducible exact H) | (have H2_ := (Option.bind_some _ _).symm.trans H; rw [hy213]; with_reducible exact H2_) | (have H2_ := (Option.bind_some _ _).symm.trans H; with_reducible exact H2_) | with_reducible exact H | (rw [hy213]; exact H) | exact H
              have Ny213 := Aside0.mk hy213
              clear hy213
              have H' := Aside0.mk H
              clear H
              have p211 : 0 ≤ (x9_1 : Int) := of_decide_eq_true (by first | (with_reducible assumption) | assumption)
              have q211 : x9_1 < (l0.length : Int) := of_decide_eq_true (by first | (with_reducible assumption) | assumption)
              obtain ⟨ad211, e211, hx211_0, hx211_1, hx211_2, hx211_3⟩ := at_T44 HR0.out x9_1 p211 q211
              cases e211
              replace hx211_0 := (HB.out.cell (World.block_lt_of_cell? w _ hx211_0)).trans hx211_0
              replace hx211_1 := (HB.out.cell (World.block_lt_of_cell? w _ hx211_1)).trans hx211_1
              replace hx211_2 := (HB.out.cell (World.block_lt_of_cell? w _ hx211_2)).trans hx211_2
              replace hx211_3 := (HB.out.cell (World.block_lt_of_cell? w _ hx211_3)).trans hx211_3
              replace p211 := eq_true p211
              replace q211 := eq_true q211
              go_wp2_with (first | ((with_reducible refine gate_dst (N := 5) rfl ?_); refine box_event ?hg (N := 5) ?hd (cs := #[.int .i64 0, .int .i64 0, .int .i64 0, .int .i64 0]) (t := 44) ?hr ?_; (case hd => rfl); (case hg => rfl); (case hr => first | (go_simp; done) | (go_simp; rfl)); intro gb212 hg w8 hbox hb; have n0_ := Aside0.mk (Kd.R_below (by (with_reducible repeat (first | apply Kd.R_alloc | apply Kd.R_drewN | apply Kd.R_drew)); exact HO_3.out) hb); have n1_ := Aside0.mk (below_step (by repeat (first | (with_reducible first | exact HB.out | apply below_alloc | apply pw_below_drewN | apply below_drew1) | exact HB.out)) hb); have n2_ := Aside0.mk (hbox); have n3_ := Aside0.mk ((by rw [hg]; exact (below_size (by repeat (first | (with_reducible first | exact HB.out | apply below_alloc | apply pw_below_drewN | apply below_drew1) | exact HB.out))) : w.heap.size ≤ gb212)); have n4_ := Aside0.mk ((by rw [hg]; exact (below_size (by repeat (first | (with_reducible first | exact HB.out | apply below_alloc | apply pw_below_drewN | apply below_drew1) | exact HB.out))) : w.heap.size ≤ gb212)); clear HO_3; clear HB; have HO_3 := n0_; have HB := n1_; have BK212 := n2_; have GW212 := n3_; have GE212 := n4_; clear n0_ n1_ n2_ n3_ n4_; clear hb hbox hg; have hcz9_0 : w8.cell? ⟨gb212, 0, none⟩ = some (.int .i64 0) := (blk_cell BK212.out 0).trans rfl; have hcz9_1 : w8.cell? ⟨gb212, 1, none⟩ = some (.int .i64 0) := (blk_cell BK212.out 1).trans rfl; have hcz9_2 : w8.cell? ⟨gb212, 2, none⟩ = some (.int .i64 0) := (blk_cell BK212.out 2).trans rfl; have hcz9_3 : w8.cell? ⟨gb212, 3, none⟩ = some (.int .i64 0) := (blk_cell BK212.out 3).trans rfl; have hfz9_0 := blk_frozen BK212.out 0; have hfz9_1 := blk_frozen BK212.out 1; have hfz9_2 := blk_frozen BK212.out 2; have hfz9_3 := blk_frozen BK212.out 3) | ((with_reducible refine gate_builtin (b := .append) (xs := #[.tmp 13, .tmp 15]) rfl ?_); at_builtin; refine Kd.R_append k77 (w0 := w) w.heap.size rfl (.tmp 13) (.tmp 15) 49 77 (.agg #[(.int .i64 0), (.int .i64 0), (.int .i64 0), (.int .i64 0)]) 32 rfl Try.underlying49 info77 rfl (by decide) (by omega) u3 x3_1 (⟨(rd_T44 l0 x9_1).f0, (rd_T44 l0 x9_1).f1, (rd_T44 l0 x9_1).f2, (rd_T44 l0 x9_1).f3⟩ : S77) [.int .i64 ((rd_T44 l0 x9_1).f0), .int .i64 ((rd_T44 l0 x9_1).f1), .int .i64 ((rd_T44 l0 x9_1).f2), .int .i64 ((rd_T44 l0 x9_1).f3)] (fun _ => True) (fun _ => False) rfl (by first | (go_simp; done) | (go_simp; rfl)) ?aP (fun _ hk => hk.elim) ?aF ?aO ?aB ?aS ?aL ?_; (case aP => exact k77_mkM _ _ _ (⟨(rd_T44 l0 x9_1).f0, (rd_T44 l0 x9_1).f1, (rd_T44 l0 x9_1).f2, (rd_T44 l0 x9_1).f3⟩ : S77)); (case aB => exact (by repeat (first | (with_reducible first | exact HB.out | apply below_alloc | apply pw_below_drewN | apply below_drew1 | refine below_set ?_ GE212.out) | exact HB.out))); (case aF => exact (fun _ _ => trivial)); (case aO => exact (by (with_reducible repeat (first | apply Kd.R_alloc | apply Kd.R_drewN | apply Kd.R_drew)); exact Kd.R_mono (Kd.R_far (p := ⟨gb212, 3, none⟩) (Kd.R_far (p := ⟨gb212, 2, none⟩) (Kd.R_far (p := ⟨gb212, 1, none⟩) (Kd.R_far (p := ⟨gb212, 0, none⟩) (Kd.R_types HO_3.out BK212.out (by decide)) (fun _ hk => hk.2) (.int .i64 ((rd_T44 l0 x9_1).f0))) (fun _ hk => hk.2) (.int .i64 ((rd_T44 l0 x9_1).f1))) (fun _ hk => hk.2) (.int .i64 ((rd_T44 l0 x9_1).f2))) (fun _ hk => hk.2) (.int .i64 ((rd_T44 l0 x9_1).f3))) (fun _ hk => trivial))); (case aS => exact (below_size (by repeat (first | (with_reducible first | exact HB.out | apply below_alloc | apply pw_below_drewN | apply below_drew1 | refine below_set ?_ GE212.out) | exact HB.out)))); (case aL => have := LMc7.out; omega); intro v214 w10 ho hb hg hat; rw [← Ny213.out] at ho; have n0_ := Aside0.mk (blk_grown (g := gb212) (o := .cells #[.int .i64 ((rd_T44 l0 x9_1).f0), .int .i64 ((rd_T44 l0 x9_1).f1), .int .i64 ((rd_T44 l0 x9_1).f2), .int .i64 ((rd_T44 l0 x9_1).f3)] 44 (0, 0)) (by (with_reducible repeat (first | refine blk_drewN ?_ _ | refine blk_drew ?_ | refine blk_alloc ?_ _)); refine blk_put (cs := #[.int .i64 ((rd_T44 l0 x9_1).f0), .int .i64 ((rd_T44 l0 x9_1).f1), .int .i64 ((rd_T44 l0 x9_1).f2), .int .i64 0]) ?_ 3 _ rfl; (with_reducible repeat (first | refine blk_drewN ?_ _ | refine blk_drew ?_ | refine blk_alloc ?_ _)); refine blk_put (cs := #[.int .i64 ((rd_T44 l0 x9_1).f0), .int .i64 ((rd_T44 l0 x9_1).f1), .int .i64 0, .int .i64 0]) ?_ 2 _ rfl; (with_reducible repeat (first | refine blk_drewN ?_ _ | refine blk_drew ?_ | refine blk_alloc ?_ _)); refine blk_put (cs := #[.int .i64 ((rd_T44 l0 x9_1).f0), .int .i64 0, .int .i64 0, .int .i64 0]) ?_ 1 _ rfl; (with_reducible repeat (first | refine blk_drewN ?_ _ | refine blk_drew ?_ | refine blk_alloc ?_ _)); refine blk_put (cs := #[.int .i64 0, .int .i64 0, .int .i64 0, .int .i64 0]) ?_ 0 _ rfl; (with_reducible repeat (first | refine blk_drewN ?_ _ | refine blk_drew ?_ | refine blk_alloc ?_ _)); exact BK212.out) hg (Kd.R_ne HO_3.out BK212.out (by decide))); have n1_ := Aside0.mk (hb); have n2_ := Aside0.mk (ho); clear BK212; clear HB; clear HO_3; have BK212 := n0_; have HB := n1_; have HO215 := n2_; clear n0_ n1_ n2_; clear ho hb hg hat))
              go_roundg k1
              case measure => have := HK1.out; omega
              case rel => exact ⟨(y213), (wrap64 (x9_1 + 1)), (by first | rfl | (simp; done) | (simp [*]; done)), H', ⟨by have := HK1.out; omega⟩, ⟨by (with_reducible repeat (first | apply Kd.R_alloc | apply Kd.R_drewN | apply Kd.R_drew)); exact HO215.out⟩, ⟨by repeat (first | (with_reducible first | exact HB.out | apply below_alloc | apply pw_below_drewN | apply below_drew1 | refine below_set ?_ GE212.out) | exact HB.out)⟩⟩
            · rw [if_neg c7] at H
              exact absurd H (by simp)
          · rw [if_neg c6] at H
            exact absurd H (by simp)
        · rw [if_neg c5] at H
          exact absurd H (by simp)
      · rw [if_neg c4] at H
        have c4b0 : decide (x9_1 < (l0.length : Int)) = false := decide_eq_false c4
        clear c4
        obtain rfl := Option.some.inj H
        simp only [Option.some.injEq, Prod.mk.injEq] at H
        obtain ⟨rfl⟩ := H
        go_wp2
        go_ret
        exact ⟨_, by first | rfl | (simp [errW_none, errW_some] <;> rfl) | (simp [*, errW_none, errW_some] <;> rfl), by (with_reducible repeat (first | apply Kd.R_alloc | apply Kd.R_drewN | apply Kd.R_drew)); exact HO_3.out, by repeat (first | (with_reducible first | exact HB.out | apply below_alloc | apply pw_below_drewN | apply below_drew1) | exact HB.out)⟩

/-! ### order_Batch_Check: function 30 -/
def order_Batch_Check.l0 : Nat → List (S44) → Int → Int → Option (Int)
  | 0, _, _, _ => none
  | k + 1, x9, x10, x11 => if x11 < x10 then (if 0 ≤ x11 then (if x11 < (x9.length : Int) then ((order_Order_Check.f k ((rd_T44 x9 x11).f0) ((rd_T44 x9 x11).f1) ((rd_T44 x9 x11).f2) ((rd_T44 x9 x11).f3)).bind fun t218 => (if t218 = 0 then (order_Batch_Check.l0 k x9 x10 (wrap64 (x11 + 1))) else (some t218))) else (none)) else (none)) else (some 0)
def order_Batch_Check.f (k : Nat) (l0 : List (S44)) : Option (Int) := if (l0.length : Int) > 8 then (some 8) else (order_Batch_Check.l0 k l0 (l0.length : Int) 0)
theorem order_Batch_Check.mono_l : ∀ k, (∀ y0 y1 y2, LeO (order_Batch_Check.l0 k y0 y1 y2) (order_Batch_Check.l0 (k + 1) y0 y1 y2))
  | 0 => fun _ _ _ r h => by simp [order_Batch_Check.l0] at h
  | k + 1 => by
    have ih0 := order_Batch_Check.mono_l k
    · intro y0 y1 y2
      unfold order_Batch_Check.l0
      repeat' first
      | (with_reducible exact ih0 _ _ _)
      | (with_reducible exact order_Order_Check.mono _ _ _ _ _)
      | (with_reducible exact LeO.refl _)
      | (with_reducible exact LeO.none _)
      | (with_reducible refine LeO.ite ?_ ?_)
      | (with_reducible refine LeO.bind ?_ (fun _ => ?_))
      | exact ih0 _ _ _
      | exact order_Order_Check.mono _ _ _ _ _
      | exact LeO.none _
      | refine LeO.ite ?_ ?_
      | refine LeO.bind ?_ (fun _ => ?_)
theorem order_Batch_Check.mono : ∀ a0 k, LeO (order_Batch_Check.f k a0) (order_Batch_Check.f (k + 1) a0) := by
  intro a0 k
  have ih0 := order_Batch_Check.mono_l k
  unfold order_Batch_Check.f
  repeat' first
      | (with_reducible exact ih0 _ _ _)
      | (with_reducible exact order_Order_Check.mono _ _ _ _ _)
      | (with_reducible exact LeO.refl _)
      | (with_reducible exact LeO.none _)
      | (with_reducible refine LeO.ite ?_ ?_)
      | (with_reducible refine LeO.bind ?_ (fun _ => ?_))
      | exact ih0 _ _ _
      | exact order_Order_Check.mono _ _ _ _ _
      | exact LeO.none _
      | refine LeO.ite ?_ ?_
      | refine LeO.bind ?_ (fun _ => ?_)
set_option maxHeartbeats 8000000 in
set_option maxRecDepth 100000 in
theorem order_Batch_Check.calls (k : Nat) (A0 : Option Addr) (c0 : Nat) (l0 : List (S44)) (r : Int) (w : World) (hr0 : Kd.C k44 w A0 l0.length l0) (hc0 : l0.length ≤ c0) (h : order_Batch_Check.f k l0 = some r) :
    Calls Try.prog 30 #[.slice A0 l0.length c0] w fun e w' => e = .returned (.int .i64 r) ∧ Below w.heap.size w w' := by
  have hu44 := Try.underlying44
  have HR0 := Aside0.mk hr0
  have HC0 := Aside0.mk hc0
  clear hr0 hc0
  have HB := Aside0.mk (Below.refl w.heap.size w)
  have H : (if (l0.length : Int) > 8 then (some 8) else (order_Batch_Check.l0 k l0 (l0.length : Int) 0)) = some r := h
  clear h
  by_cases c2 : (l0.length : Int) > 8
  · rw [if_pos c2] at H
    have c2b0 : decide (8 < (l0.length : Int)) = true := decide_eq_true c2
    have c2b1 : decide (8 < l0.length) = true := decide_eq_true (by omega)
    clear c2
    obtain rfl := Option.some.inj H
    simp only [Option.some.injEq, Prod.mk.injEq] at H
    obtain ⟨rfl⟩ := H
    go_enter Try.func30, Try.ntmps30
    go_wp2
    go_ret
    exact ⟨by first | rfl | (simp [errW_none, errW_some] <;> rfl) | (simp [*, errW_none, errW_some] <;> rfl), by repeat (first | (with_reducible first | exact HB.out | apply below_alloc | apply pw_below_drewN | apply below_drew1) | exact HB.out)⟩
  · rw [if_neg c2] at H
    have c2b0 : decide (8 < (l0.length : Int)) = false := decide_eq_false c2
    have c2b1 : decide (8 < l0.length) = false := decide_eq_false (by omega)
    clear c2
    have H' := Aside0.mk H
    clear H
    go_enter Try.func30, Try.ntmps30
    go_wp2
    go_loopg [11] k (fun kq v11 w' => ∃ (x11_1 : Int), v11 = .int .i64 x11_1 ∧ Aside0 (order_Batch_Check.l0 kq l0 (l0.length : Int) x11_1 = some r) ∧ Aside0 (kq ≤ k) ∧ Aside0 (Below w.heap.size w w'))
    case atStart => exact ⟨(0), (by first | rfl | (simp; done) | (simp [*]; done)), H', ⟨Nat.le_refl _⟩, ⟨by repeat (first | (with_reducible first | exact HB.out | apply below_alloc | apply pw_below_drewN | apply below_drew1) | exact HB.out)⟩⟩
    case round =>
      clear H'
      try clear c2
      try clear c2b0
      try clear c2b1
      try clear p2
      obtain ⟨x11_1, rfl, HA, HK1, HB⟩ := hrel
      cases gk with
      | zero => exact absurd HA.out (by simp [order_Batch_Check.l0])
      | succ k1 =>
        have H := HA.out
        clear HA
        simp only [order_Batch_Check.l0] at H
        by_cases c3 : x11_1 < (l0.length : Int)
        · rw [if_pos c3] at H
          have c3b0 : decide (x11_1 < (l0.length : Int)) = true := decide_eq_true c3
          clear c3
          by_cases c4 : 0 ≤ x11_1
          · rw [if_pos c4] at H
            have c4b0 : decide (0 ≤ x11_1) = true := decide_eq_true c4
            clear c4
            by_cases c5 : x11_1 < (l0.length : Int)
            · rw [if_pos c5] at H
              have c5b0 : decide (x11_1 < (l0.length : Int)) = true := decide_eq_true c5
              clear c5
              replace H := Option.bind_eq_some_iff.mp H
              obtain ⟨t218, A60, H⟩ := H
              replace H : (if t218 = 0 then (order_Batch_Check.l0 k1 l0 (l0.length : Int) (wrap64 (x11_1 + 1))) else (some t218)) = some r := H
              have A6 := Aside0.mk A60
              clear A60
              by_cases c7 : t218 = 0
              · rw [if_pos c7] at H
                have c7b0 : (t218 == 0) = true := beq_iff_eq.mpr c7
                have c7b1 : (t218 != 0) = false := bne_eq_false_iff_eq.mpr c7
                clear c7
                have H' := Aside0.mk H
                clear H
                have p216 : 0 ≤ (x11_1 : Int) := of_decide_eq_true (by first | (with_reducible assumption) | assumption)
                have q216 : x11_1 < (l0.length : Int) := of_decide_eq_true (by first | (with_reducible assumption) | assumption)
                obtain ⟨ad216, e216, hx216_0, hx216_1, hx216_2, hx216_3⟩ := at_T44 HR0.out x11_1 p216 q216
                cases e216
                replace hx216_0 := (HB.out.cell (World.block_lt_of_cell? w _ hx216_0)).trans hx216_0
                replace hx216_1 := (HB.out.cell (World.block_lt_of_cell? w _ hx216_1)).trans hx216_1
                replace hx216_2 := (HB.out.cell (World.block_lt_of_cell? w _ hx216_2)).trans hx216_2
                replace hx216_3 := (HB.out.cell (World.block_lt_of_cell? w _ hx216_3)).trans hx216_3
                replace p216 := eq_true p216
                replace q216 := eq_true q216
                go_wp2_with (first | ((with_reducible refine gate_dst (N := 4) rfl ?_); refine box_event ?hg (N := 4) ?hd (cs := #[.int .i64 0, .int .i64 0, .int .i64 0, .int .i64 0]) (t := 44) ?hr ?_; (case hd => rfl); (case hg => rfl); (case hr => first | (go_simp; done) | (go_simp; rfl)); intro gb217 hg w8 hbox hb; have n0_ := Aside0.mk (below_step (by repeat (first | (with_reducible first | exact HB.out | apply below_alloc | apply pw_below_drewN | apply below_drew1) | exact HB.out)) hb); have n1_ := Aside0.mk (hbox); have n2_ := Aside0.mk ((by rw [hg]; exact (below_size (by repeat (first | (with_reducible first | exact HB.out | apply below_alloc | apply pw_below_drewN | apply below_drew1) | exact HB.out))) : w.heap.size ≤ gb217)); have n3_ := Aside0.mk ((by rw [hg]; exact (below_size (by repeat (first | (with_reducible first | exact HB.out | apply below_alloc | apply pw_below_drewN | apply below_drew1) | exact HB.out))) : w.heap.size ≤ gb217)); clear HB; have HB := n0_; have BK217 := n1_; have GW217 := n2_; have GE217 := n3_; clear n0_ n1_ n2_ n3_; clear hb hbox hg; have hcz9_0 : w8.cell? ⟨gb217, 0, none⟩ = some (.int .i64 0) := (blk_cell BK217.out 0).trans rfl; have hcz9_1 : w8.cell? ⟨gb217, 1, none⟩ = some (.int .i64 0) := (blk_cell BK217.out 1).trans rfl; have hcz9_2 : w8.cell? ⟨gb217, 2, none⟩ = some (.int .i64 0) := (blk_cell BK217.out 2).trans rfl; have hcz9_3 : w8.cell? ⟨gb217, 3, none⟩ = some (.int .i64 0) := (blk_cell BK217.out 3).trans rfl; have hfz9_0 := blk_frozen BK217.out 0; have hfz9_1 := blk_frozen BK217.out 1; have hfz9_2 := blk_frozen BK217.out 2; have hfz9_3 := blk_frozen BK217.out 3) | ((with_reducible refine gate_callee (f := 41) rfl ?_); refine goesL_ (some 16) rfl rfl Try.func41 (by kernel_rfl) rfl #[.agg #[.int .i64 ((rd_T44 l0 x11_1).f0), .int .i64 ((rd_T44 l0 x11_1).f1), .int .i64 ((rd_T44 l0 x11_1).f2), .int .i64 ((rd_T44 l0 x11_1).f3)]] rfl (by (try simp only [List.map_toArray, List.map_cons, List.map_nil]); first | done | rfl | (simp only [List.length_drop, List.length_take]; rfl)) ?_; (with_reducible refine (order_Order_Check.calls k1 ((rd_T44 l0 x11_1).f0) ((rd_T44 l0 x11_1).f1) ((rd_T44 l0 x11_1).f2) ((rd_T44 l0 x11_1).f3) t218 _ A6.out).mono ?_); rintro e w10 ⟨rfl, hb⟩; refine ⟨_, rfl, ?_⟩; have n0_ := Aside0.mk (blk_below (g := gb217) (o := .cells #[.int .i64 ((rd_T44 l0 x11_1).f0), .int .i64 ((rd_T44 l0 x11_1).f1), .int .i64 ((rd_T44 l0 x11_1).f2), .int .i64 ((rd_T44 l0 x11_1).f3)] 44 (0, 0)) (by (with_reducible repeat (first | refine blk_drewN ?_ _ | refine blk_drew ?_ | refine blk_alloc ?_ _)); refine blk_put (cs := #[.int .i64 ((rd_T44 l0 x11_1).f0), .int .i64 ((rd_T44 l0 x11_1).f1), .int .i64 ((rd_T44 l0 x11_1).f2), .int .i64 0]) ?_ 3 _ rfl; (with_reducible repeat (first | refine blk_drewN ?_ _ | refine blk_drew ?_ | refine blk_alloc ?_ _)); refine blk_put (cs := #[.int .i64 ((rd_T44 l0 x11_1).f0), .int .i64 ((rd_T44 l0 x11_1).f1), .int .i64 0, .int .i64 0]) ?_ 2 _ rfl; (with_reducible repeat (first | refine blk_drewN ?_ _ | refine blk_drew ?_ | refine blk_alloc ?_ _)); refine blk_put (cs := #[.int .i64 ((rd_T44 l0 x11_1).f0), .int .i64 0, .int .i64 0, .int .i64 0]) ?_ 1 _ rfl; (with_reducible repeat (first | refine blk_drewN ?_ _ | refine blk_drew ?_ | refine blk_alloc ?_ _)); refine blk_put (cs := #[.int .i64 0, .int .i64 0, .int .i64 0, .int .i64 0]) ?_ 0 _ rfl; (with_reducible repeat (first | refine blk_drewN ?_ _ | refine blk_drew ?_ | refine blk_alloc ?_ _)); exact BK217.out) hb); have n1_ := Aside0.mk (below_step (by repeat (first | (with_reducible first | exact HB.out | apply below_alloc | apply pw_below_drewN | apply below_drew1 | refine below_set ?_ GE217.out) | exact HB.out)) hb); clear BK217; clear HB; have BK217 := n0_; have HB := n1_; clear n0_ n1_; (try clear hb); (try clear hb2); (try clear hk); (try clear hi)))
                go_roundg k1
                case measure => have := HK1.out; omega
                case rel => exact ⟨(wrap64 (x11_1 + 1)), (by first | rfl | (simp; done) | (simp [*]; done)), H', ⟨by have := HK1.out; omega⟩, ⟨by repeat (first | (with_reducible first | exact HB.out | apply below_alloc | apply pw_below_drewN | apply below_drew1 | refine below_set ?_ GE217.out) | exact HB.out)⟩⟩
              · rw [if_neg c7] at H
                have c7b0 : (t218 == 0) = false := beq_eq_false_iff_ne.mpr c7
                have c7b1 : (t218 != 0) = true := bne_iff_ne.mpr c7
                obtain rfl := Option.some.inj H
                simp only [Option.some.injEq, Prod.mk.injEq] at H
                obtain ⟨rfl⟩ := H
                have p216 : 0 ≤ (x11_1 : Int) := of_decide_eq_true (by first | (with_reducible assumption) | assumption)
                have q216 : x11_1 < (l0.length : Int) := of_decide_eq_true (by first | (with_reducible assumption) | assumption)
                obtain ⟨ad216, e216, hx216_0, hx216_1, hx216_2, hx216_3⟩ := at_T44 HR0.out x11_1 p216 q216
                cases e216
                replace hx216_0 := (HB.out.cell (World.block_lt_of_cell? w _ hx216_0)).trans hx216_0
                replace hx216_1 := (HB.out.cell (World.block_lt_of_cell? w _ hx216_1)).trans hx216_1
                replace hx216_2 := (HB.out.cell (World.block_lt_of_cell? w _ hx216_2)).trans hx216_2
                replace hx216_3 := (HB.out.cell (World.block_lt_of_cell? w _ hx216_3)).trans hx216_3
                replace p216 := eq_true p216
                replace q216 := eq_true q216
                go_wp2_with (first | ((with_reducible refine gate_dst (N := 4) rfl ?_); refine box_event ?hg (N := 4) ?hd (cs := #[.int .i64 0, .int .i64 0, .int .i64 0, .int .i64 0]) (t := 44) ?hr ?_; (case hd => rfl); (case hg => rfl); (case hr => first | (go_simp; done) | (go_simp; rfl)); intro gb217 hg w11 hbox hb; have n0_ := Aside0.mk (below_step (by repeat (first | (with_reducible first | exact HB.out | apply below_alloc | apply pw_below_drewN | apply below_drew1) | exact HB.out)) hb); have n1_ := Aside0.mk (hbox); have n2_ := Aside0.mk ((by rw [hg]; exact (below_size (by repeat (first | (with_reducible first | exact HB.out | apply below_alloc | apply pw_below_drewN | apply below_drew1) | exact HB.out))) : w.heap.size ≤ gb217)); have n3_ := Aside0.mk ((by rw [hg]; exact (below_size (by repeat (first | (with_reducible first | exact HB.out | apply below_alloc | apply pw_below_drewN | apply below_drew1) | exact HB.out))) : w.heap.size ≤ gb217)); clear HB; have HB := n0_; have BK217 := n1_; have GW217 := n2_; have GE217 := n3_; clear n0_ n1_ n2_ n3_; clear hb hbox hg; have hcz12_0 : w11.cell? ⟨gb217, 0, none⟩ = some (.int .i64 0) := (blk_cell BK217.out 0).trans rfl; have hcz12_1 : w11.cell? ⟨gb217, 1, none⟩ = some (.int .i64 0) := (blk_cell BK217.out 1).trans rfl; have hcz12_2 : w11.cell? ⟨gb217, 2, none⟩ = some (.int .i64 0) := (blk_cell BK217.out 2).trans rfl; have hcz12_3 : w11.cell? ⟨gb217, 3, none⟩ = some (.int .i64 0) := (blk_cell BK217.out 3).trans rfl; have hfz12_0 := blk_frozen BK217.out 0; have hfz12_1 := blk_frozen BK217.out 1; have hfz12_2 := blk_frozen BK217.out 2; have hfz12_3 := blk_frozen BK217.out 3) | ((with_reducible refine gate_callee (f := 41) rfl ?_); refine goesL_ (some 16) rfl rfl Try.func41 (by kernel_rfl) rfl #[.agg #[.int .i64 ((rd_T44 l0 x11_1).f0), .int .i64 ((rd_T44 l0 x11_1).f1), .int .i64 ((rd_T44 l0 x11_1).f2), .int .i64 ((rd_T44 l0 x11_1).f3)]] rfl (by (try simp only [List.map_toArray, List.map_cons, List.map_nil]); first | done | rfl | (simp only [List.length_drop, List.length_take]; rfl)) ?_; (with_reducible refine (order_Order_Check.calls k1 ((rd_T44 l0 x11_1).f0) ((rd_T44 l0 x11_1).f1) ((rd_T44 l0 x11_1).f2) ((rd_T44 l0 x11_1).f3) t218 _ A6.out).mono ?_); rintro e w13 ⟨rfl, hb⟩; refine ⟨_, rfl, ?_⟩; have n0_ := Aside0.mk (blk_below (g := gb217) (o := .cells #[.int .i64 ((rd_T44 l0 x11_1).f0), .int .i64 ((rd_T44 l0 x11_1).f1), .int .i64 ((rd_T44 l0 x11_1).f2), .int .i64 ((rd_T44 l0 x11_1).f3)] 44 (0, 0)) (by (with_reducible repeat (first | refine blk_drewN ?_ _ | refine blk_drew ?_ | refine blk_alloc ?_ _)); refine blk_put (cs := #[.int .i64 ((rd_T44 l0 x11_1).f0), .int .i64 ((rd_T44 l0 x11_1).f1), .int .i64 ((rd_T44 l0 x11_1).f2), .int .i64 0]) ?_ 3 _ rfl; (with_reducible repeat (first | refine blk_drewN ?_ _ | refine blk_drew ?_ | refine blk_alloc ?_ _)); refine blk_put (cs := #[.int .i64 ((rd_T44 l0 x11_1).f0), .int .i64 ((rd_T44 l0 x11_1).f1), .int .i64 0, .int .i64 0]) ?_ 2 _ rfl; (with_reducible repeat (first | refine blk_drewN ?_ _ | refine blk_drew ?_ | refine blk_alloc ?_ _)); refine blk_put (cs := #[.int .i64 ((rd_T44 l0 x11_1).f0), .int .i64 0, .int .i64 0, .int .i64 0]) ?_ 1 _ rfl; (with_reducible repeat (first | refine blk_drewN ?_ _ | refine blk_drew ?_ | refine blk_alloc ?_ _)); refine blk_put (cs := #[.int .i64 0, .int .i64 0, .int .i64 0, .int .i64 0]) ?_ 0 _ rfl; (with_reducible repeat (first | refine blk_drewN ?_ _ | refine blk_drew ?_ | refine blk_alloc ?_ _)); exact BK217.out) hb); have n1_ := Aside0.mk (below_step (by repeat (first | (with_reducible first | exact HB.out | apply below_alloc | apply pw_below_drewN | apply below_drew1 | refine below_set ?_ GE217.out) | exact HB.out)) hb); clear BK217; clear HB; have BK217 := n0_; have HB := n1_; clear n0_ n1_; (try clear hb); (try clear hb2); (try clear hk); (try clear hi)))
                go_ret
                exact ⟨by first | rfl | (simp [errW_none, errW_some] <;> rfl) | (simp [*, errW_none, errW_some] <;> rfl), by repeat (first | (with_reducible first | exact HB.out | apply below_alloc | apply pw_below_drewN | apply below_drew1 | refine below_set ?_ GE217.out) | exact HB.out)⟩
            · rw [if_neg c5] at H
              exact absurd H (by simp)
          · rw [if_neg c4] at H
            exact absurd H (by simp)
        · rw [if_neg c3] at H
          have c3b0 : decide (x11_1 < (l0.length : Int)) = false := decide_eq_false c3
          clear c3
          obtain rfl := Option.some.inj H
          simp only [Option.some.injEq, Prod.mk.injEq] at H
          obtain ⟨rfl⟩ := H
          go_wp2
          go_ret
          exact ⟨by first | rfl | (simp [errW_none, errW_some] <;> rfl) | (simp [*, errW_none, errW_some] <;> rfl), by repeat (first | (with_reducible first | exact HB.out | apply below_alloc | apply pw_below_drewN | apply below_drew1) | exact HB.out)⟩

/-! ### cotillionref09_id: function 71 -/
def cotillionref09_id.f (a0 : Int) : Option (Bool) := if a0 ≥ 1 then (some (decide (a0 < 1099511627776))) else (some false)
set_option maxHeartbeats 8000000 in
set_option maxRecDepth 100000 in
theorem cotillionref09_id.calls (a0 : Int) (r : Bool) (w : World) (h : cotillionref09_id.f a0 = some r) :
    Calls Try.prog 71 #[.int .i64 a0] w fun e w' => e = .returned (.bool r) ∧ Drawn0 w w' := by
  have H : (if a0 ≥ 1 then (some (decide (a0 < 1099511627776))) else (some false)) = some r := h
  clear h
  by_cases c2 : a0 ≥ 1
  · rw [if_pos c2] at H
    have c2b0 : decide (1 ≤ a0) = true := decide_eq_true c2
    clear c2
    obtain rfl := Option.some.inj H
    simp only [Option.some.injEq, Prod.mk.injEq] at H
    obtain ⟨rfl⟩ := H
    go_enter Try.func71, Try.ntmps71
    go_wp2
    go_ret
    exact ⟨by first | rfl | (simp; done) | (simp [*]; done), by repeat (first | exact Drawn0.refl _ | apply Drawn0.step)⟩
  · rw [if_neg c2] at H
    have c2b0 : decide (1 ≤ a0) = false := decide_eq_false c2
    clear c2
    obtain rfl := Option.some.inj H
    simp only [Option.some.injEq, Prod.mk.injEq] at H
    obtain ⟨rfl⟩ := H
    go_enter Try.func71, Try.ntmps71
    go_wp2
    go_ret
    exact ⟨by first | rfl | (simp; done) | (simp [*]; done), by repeat (first | exact Drawn0.refl _ | apply Drawn0.step)⟩

/-! ### cotillionref09_place: function 72 -/
def cotillionref09_place.f (a0 : Int) : Option (Bool) := if a0 ≥ (-1000) then (some (decide (a0 ≤ 1000))) else (some false)
set_option maxHeartbeats 8000000 in
set_option maxRecDepth 100000 in
theorem cotillionref09_place.calls (a0 : Int) (r : Bool) (w : World) (h : cotillionref09_place.f a0 = some r) :
    Calls Try.prog 72 #[.int .i64 a0] w fun e w' => e = .returned (.bool r) ∧ Drawn0 w w' := by
  have H : (if a0 ≥ (-1000) then (some (decide (a0 ≤ 1000))) else (some false)) = some r := h
  clear h
  by_cases c2 : a0 ≥ (-1000)
  · rw [if_pos c2] at H
    have c2b0 : decide ((-1000) ≤ a0) = true := decide_eq_true c2
    clear c2
    obtain rfl := Option.some.inj H
    simp only [Option.some.injEq, Prod.mk.injEq] at H
    obtain ⟨rfl⟩ := H
    go_enter Try.func72, Try.ntmps72
    go_wp2
    go_ret
    exact ⟨by first | rfl | (simp; done) | (simp [*]; done), by repeat (first | exact Drawn0.refl _ | apply Drawn0.step)⟩
  · rw [if_neg c2] at H
    have c2b0 : decide ((-1000) ≤ a0) = false := decide_eq_false c2
    clear c2
    obtain rfl := Option.some.inj H
    simp only [Option.some.injEq, Prod.mk.injEq] at H
    obtain ⟨rfl⟩ := H
    go_enter Try.func72, Try.ntmps72
    go_wp2
    go_ret
    exact ⟨by first | rfl | (simp; done) | (simp [*]; done), by repeat (first | exact Drawn0.refl _ | apply Drawn0.step)⟩

end Go.Proofs.Ytfhckddfmlljfaa.QOrderTexts
