/- Written by a program for this claim (see NOTES.md of the claims' repo). Mirrors, as plain Lean functions, of Go functions that the law ChunkSplits reaches, and proofs that the calls come to what these say. No conditions. -/
import Derived.Test.YtekmhdiajjfgfaaQChunkSplitsx0
import Derived.Test.YtekmhdiajjfgfaaQChunkSplitsx1
import Derived.Test.YtekmhdiajjfgfaaQChunkSplitsx2
import Derived.Test.YtekmhdiajjfgfaaQChunkSplitsx3
import Derived.Test.YtekmhdiajjfgfaaQChunkSplitsx4
import Derived.Test.YtekmhdiajjfgfaaQChunkSplitsx5
import Derived.Test.YtekmhdiajjfgfaaGAwake
namespace Go.Proofs.Ytekmhdiajjfgfaa.QChunkSplits
open Go.RowKit Go.Proofs.YtekmhdiajjfgfaaW.PrintWords Go.Proofs.YtekmhdiajjfgfaaW.PrintLast Go.Proofs.YtekmhdiajjfgfaaW.PrintMore
attribute [local go_sem] max2_int min2_int max_two min_two max_three min_three max_four min_four   -- for this text's walks alone
set_option linter.unusedVariables false
set_option linter.unusedSimpArgs false

attribute [local go_sem high] eqA32 eqA37
/-! ### cotillionlaw11_ChunkSplits: function 3 -/
mutual
def cotillionlaw11_ChunkSplits.j0 : Nat → ByteArray → List (S31) → List (S32) → Bool → Option (Bool)
  | 0, _, _, _, _ => none
  | k + 1, x0, x5, x6, x40 => if x40 = true then (some false) else (cotillionlaw11_ChunkSplits.l0 k x0 x5 x6 (⟨#[]⟩ : ByteArray) x5 (x5.length : Int) 0)
def cotillionlaw11_ChunkSplits.l0 : Nat → ByteArray → List (S31) → List (S32) → ByteArray → List (S31) → Int → Int → Option (Bool)
  | 0, _, _, _, _, _, _, _ => none
  | k + 1, x0, x5, x6, x7, x41, x42, x43 => if x43 < x42 then (if 0 ≤ x43 then (if x43 < (x41.length : Int) then (if x7.size + ((rd_T31 x41 x43).f4).size ≤ 9223372036854775807 then ((cotillionlaw11_Told.f ((rd_T31 x41 x43).f0) ((rd_T31 x41 x43).f1) ((rd_T31 x41 x43).f2) ((rd_T31 x41 x43).f3) ((rd_T31 x41 x43).f4)).bind fun bt140 => (if x43 < (x6.length : Int) then (if (!(bt140.1 == ((rd_T32 x6 x43).f0)) || (!(bt140.2.1 == ((rd_T32 x6 x43).f1)) || (!(bt140.2.2.1 == ((rd_T32 x6 x43).f2)) || (!(bt140.2.2.2.1 == ((rd_T32 x6 x43).f3)) || (!(bt140.2.2.2.2.toList == (((rd_T32 x6 x43).f4).toList))))))) = true then (some false) else ((chunk_Piece_Check.f k ((rd_T31 x41 x43).f0) ((rd_T31 x41 x43).f1) ((rd_T31 x41 x43).f2) ((rd_T31 x41 x43).f3) ((rd_T31 x41 x43).f4)).bind fun t146 => (if t146 = 0 then ((chunk_Piece_Head.f ((rd_T31 x41 x43).f0) ((rd_T31 x41 x43).f1) ((rd_T31 x41 x43).f2) ((rd_T31 x41 x43).f3) ((rd_T31 x41 x43).f4)).bind fun bt147 => (if 0 < (x5.length : Int) then ((chunk_Piece_Head.f ((rd_T31 x5 0).f0) ((rd_T31 x5 0).f1) ((rd_T31 x5 0).f2) ((rd_T31 x5 0).f3) ((rd_T31 x5 0).f4)).bind fun bt151 => (if (!(bt147.1 == bt151.1) || (!(bt147.2.1 == bt151.2.1) || (!(bt147.2.2 == bt151.2.2)))) = true then (some false) else (cotillionlaw11_ChunkSplits.l0 k x0 x5 x6 (x7 ++ ((rd_T31 x41 x43).f4)) x41 x42 (wrap64 (x43 + 1))))) else (none))) else (some false)))) else (none))) else (none)) else (none)) else (none)) else (some (x7.toList == x0.toList))
end
def cotillionlaw11_ChunkSplits.f (k : Nat) (a0 : ByteArray) (a1 : Int) : Option (Bool) := (cotillionlaw01_Cut.f a0 2000).bind fun t128 => ((chunk_Split.f k (Go.bits .and .i64 a1 65535) t128).bind fun t129 => ((cotillionref11_Split.f k (Go.bits .and .i64 a1 65535) t128).bind fun t132 => ((cotillionlaw11_awake.f).bind fun t135 => (if t135 = true then (if (t129.length : Int) = (t132.length : Int) then ((chunk_Count.f (t128.size : Int)).bind fun t136 => (if (t129.length : Int) = t136 then ((chunk_Count.f (-5)).bind fun t137 => (cotillionlaw11_ChunkSplits.j0 k t128 t129 t132 (t137 != 0))) else (cotillionlaw11_ChunkSplits.j0 k t128 t129 t132 true))) else (cotillionlaw11_ChunkSplits.j0 k t128 t129 t132 true)) else (cotillionlaw11_ChunkSplits.j0 k t128 t129 t132 true)))))
theorem cotillionlaw11_ChunkSplits.mono_l : ∀ k, (∀ y0 y1 y2 y3, LeO (cotillionlaw11_ChunkSplits.j0 k y0 y1 y2 y3) (cotillionlaw11_ChunkSplits.j0 (k + 1) y0 y1 y2 y3)) ∧ (∀ y0 y1 y2 y3 y4 y5 y6, LeO (cotillionlaw11_ChunkSplits.l0 k y0 y1 y2 y3 y4 y5 y6) (cotillionlaw11_ChunkSplits.l0 (k + 1) y0 y1 y2 y3 y4 y5 y6))
  | 0 => ⟨fun _ _ _ _ r h => by simp [cotillionlaw11_ChunkSplits.j0] at h, fun _ _ _ _ _ _ _ r h => by simp [cotillionlaw11_ChunkSplits.l0] at h⟩
  | k + 1 => by
    obtain ⟨ih0, ih1⟩ := cotillionlaw11_ChunkSplits.mono_l k
    refine ⟨?_, ?_⟩
    · intro y0 y1 y2 y3
      unfold cotillionlaw11_ChunkSplits.j0
      repeat' first
      | (with_reducible exact ih0 _ _ _ _)
      | (with_reducible exact ih1 _ _ _ _ _ _ _)
      | (with_reducible exact chunk_Piece_Check.mono _ _ _ _ _ _)
      | (with_reducible exact chunk_Split.mono _ _ _)
      | (with_reducible exact cotillionref11_Split.mono _ _ _)
      | (with_reducible exact LeO.refl _)
      | (with_reducible exact LeO.none _)
      | (with_reducible refine LeO.ite ?_ ?_)
      | (with_reducible refine LeO.bind ?_ (fun _ => ?_))
      | exact ih0 _ _ _ _
      | exact ih1 _ _ _ _ _ _ _
      | exact chunk_Piece_Check.mono _ _ _ _ _ _
      | exact chunk_Split.mono _ _ _
      | exact cotillionref11_Split.mono _ _ _
      | exact LeO.none _
      | refine LeO.ite ?_ ?_
      | refine LeO.bind ?_ (fun _ => ?_)
    · intro y0 y1 y2 y3 y4 y5 y6
      unfold cotillionlaw11_ChunkSplits.l0
      repeat' first
      | (with_reducible exact ih0 _ _ _ _)
      | (with_reducible exact ih1 _ _ _ _ _ _ _)
      | (with_reducible exact chunk_Piece_Check.mono _ _ _ _ _ _)
      | (with_reducible exact chunk_Split.mono _ _ _)
      | (with_reducible exact cotillionref11_Split.mono _ _ _)
      | (with_reducible exact LeO.refl _)
      | (with_reducible exact LeO.none _)
      | (with_reducible refine LeO.ite ?_ ?_)
      | (with_reducible refine LeO.bind ?_ (fun _ => ?_))
      | exact ih0 _ _ _ _
      | exact ih1 _ _ _ _ _ _ _
      | exact chunk_Piece_Check.mono _ _ _ _ _ _
      | exact chunk_Split.mono _ _ _
      | exact cotillionref11_Split.mono _ _ _
      | exact LeO.none _
      | refine LeO.ite ?_ ?_
      | refine LeO.bind ?_ (fun _ => ?_)
theorem cotillionlaw11_ChunkSplits.mono : ∀ a0 a1 k, LeO (cotillionlaw11_ChunkSplits.f k a0 a1) (cotillionlaw11_ChunkSplits.f (k + 1) a0 a1) := by
  intro a0 a1 k
  obtain ⟨ih0, ih1⟩ := cotillionlaw11_ChunkSplits.mono_l k
  unfold cotillionlaw11_ChunkSplits.f
  repeat' first
      | (with_reducible exact ih0 _ _ _ _)
      | (with_reducible exact ih1 _ _ _ _ _ _ _)
      | (with_reducible exact chunk_Piece_Check.mono _ _ _ _ _ _)
      | (with_reducible exact chunk_Split.mono _ _ _)
      | (with_reducible exact cotillionref11_Split.mono _ _ _)
      | (with_reducible exact LeO.refl _)
      | (with_reducible exact LeO.none _)
      | (with_reducible refine LeO.ite ?_ ?_)
      | (with_reducible refine LeO.bind ?_ (fun _ => ?_))
      | exact ih0 _ _ _ _
      | exact ih1 _ _ _ _ _ _ _
      | exact chunk_Piece_Check.mono _ _ _ _ _ _
      | exact chunk_Split.mono _ _ _
      | exact cotillionref11_Split.mono _ _ _
      | exact LeO.none _
      | refine LeO.ite ?_ ?_
      | refine LeO.bind ?_ (fun _ => ?_)
def cotillionlaw11_ChunkSplits.T11 : Bool × List (List Nat × List Nat) := (true, [([], []), ([0], [0]), ([], []), ([], []), ([2, 3], [2, 3]), ([4], [4]), ([1, 5], [1, 5]), ([6, 1], [6]), ([7], [7]), ([8, 7, 7], [7, 8]), ([9, 7], [7, 9]), ([7, 10], [7, 10]), ([11, 9], [11]), ([12], [12]), ([13, 12, 12], [12, 13]), ([12], [12]), ([15, 12], [12, 15]), ([16, 12], [12, 16]), ([17, 14, 12], [12, 17]), ([14, 18, 12], [12, 14, 18]), ([12, 19], [12, 19])])
def cotillionlaw11_ChunkSplits.B11 : List Nat := [0, 1, 0, 0, 12, 28, 63, 127, 255, 511, 1023, 2047, 4095, 8191, 16383, 8191, 40959, 106495, 262143, 524287, 1048575]
theorem cotillionlaw11_ChunkSplits.tab11 : rtab .any (opsOf Try.f3 11) = cotillionlaw11_ChunkSplits.T11 := by kernel_rfl
theorem cotillionlaw11_ChunkSplits.bits11 : waitsOk cotillionlaw11_ChunkSplits.T11.2 cotillionlaw11_ChunkSplits.B11 = true := by kernel_rfl
set_option maxHeartbeats 8000000 in
set_option maxRecDepth 100000 in
theorem cotillionlaw11_ChunkSplits.calls (k : Nat) (a0 : ByteArray) (a1 : Int) (r : Bool) (w : World) (h : cotillionlaw11_ChunkSplits.f k a0 a1 = some r) (ht_ : r = true) :
    Calls Try.prog 3 #[.string a0, .int .i64 a1] w fun e w' => e = .returned (.bool r) ∧ Below w.heap.size w w' := by
  have hu31 := Try.underlying31
  have hu32 := Try.underlying32
  have HB := Aside0.mk (Below.refl w.heap.size w)
  have H : ((cotillionlaw01_Cut.f a0 2000).bind fun t128 => ((chunk_Split.f k (Go.bits .and .i64 a1 65535) t128).bind fun t129 => ((cotillionref11_Split.f k (Go.bits .and .i64 a1 65535) t128).bind fun t132 => ((cotillionlaw11_awake.f).bind fun t135 => (if t135 = true then (if (t129.length : Int) = (t132.length : Int) then ((chunk_Count.f (t128.size : Int)).bind fun t136 => (if (t129.length : Int) = t136 then ((chunk_Count.f (-5)).bind fun t137 => (cotillionlaw11_ChunkSplits.j0 k t128 t129 t132 (t137 != 0))) else (cotillionlaw11_ChunkSplits.j0 k t128 t129 t132 true))) else (cotillionlaw11_ChunkSplits.j0 k t128 t129 t132 true)) else (cotillionlaw11_ChunkSplits.j0 k t128 t129 t132 true)))))) = some r := h
  clear h
  replace H := Option.bind_eq_some_iff.mp H
  obtain ⟨t128, A30, H⟩ := H
  replace H : ((chunk_Split.f k (Go.bits .and .i64 a1 65535) t128).bind fun t129 => ((cotillionref11_Split.f k (Go.bits .and .i64 a1 65535) t128).bind fun t132 => ((cotillionlaw11_awake.f).bind fun t135 => (if t135 = true then (if (t129.length : Int) = (t132.length : Int) then ((chunk_Count.f (t128.size : Int)).bind fun t136 => (if (t129.length : Int) = t136 then ((chunk_Count.f (-5)).bind fun t137 => (cotillionlaw11_ChunkSplits.j0 k t128 t129 t132 (t137 != 0))) else (cotillionlaw11_ChunkSplits.j0 k t128 t129 t132 true))) else (cotillionlaw11_ChunkSplits.j0 k t128 t129 t132 true)) else (cotillionlaw11_ChunkSplits.j0 k t128 t129 t132 true))))) = some r := H
  have A3 := Aside0.mk A30
  clear A30
  replace H := Option.bind_eq_some_iff.mp H
  obtain ⟨t129, A40, H⟩ := H
  replace H : ((cotillionref11_Split.f k (Go.bits .and .i64 a1 65535) t128).bind fun t132 => ((cotillionlaw11_awake.f).bind fun t135 => (if t135 = true then (if (t129.length : Int) = (t132.length : Int) then ((chunk_Count.f (t128.size : Int)).bind fun t136 => (if (t129.length : Int) = t136 then ((chunk_Count.f (-5)).bind fun t137 => (cotillionlaw11_ChunkSplits.j0 k t128 t129 t132 (t137 != 0))) else (cotillionlaw11_ChunkSplits.j0 k t128 t129 t132 true))) else (cotillionlaw11_ChunkSplits.j0 k t128 t129 t132 true)) else (cotillionlaw11_ChunkSplits.j0 k t128 t129 t132 true)))) = some r := H
  have A4 := Aside0.mk A40
  clear A40
  replace H := Option.bind_eq_some_iff.mp H
  obtain ⟨t132, A50, H⟩ := H
  replace H : ((cotillionlaw11_awake.f).bind fun t135 => (if t135 = true then (if (t129.length : Int) = (t132.length : Int) then ((chunk_Count.f (t128.size : Int)).bind fun t136 => (if (t129.length : Int) = t136 then ((chunk_Count.f (-5)).bind fun t137 => (cotillionlaw11_ChunkSplits.j0 k t128 t129 t132 (t137 != 0))) else (cotillionlaw11_ChunkSplits.j0 k t128 t129 t132 true))) else (cotillionlaw11_ChunkSplits.j0 k t128 t129 t132 true)) else (cotillionlaw11_ChunkSplits.j0 k t128 t129 t132 true))) = some r := H
  have A5 := Aside0.mk A50
  clear A50
  have HC6 := Aside0.mk H
  clear H
  go_enter Try.func3, Try.ntmps3
  go_upto_region 4 with (first | ((with_reducible refine gate_callee (f := 9) rfl ?_); refine goesL_ (some 11) rfl rfl Try.func9 (by kernel_rfl) rfl #[.string a0, .int .i64 2000] rfl (by (try simp only [List.map_toArray, List.map_cons, List.map_nil]); first | done | rfl | (simp only [List.length_drop, List.length_take]; rfl)) ?_; (with_reducible refine (cotillionlaw01_Cut.calls a0 2000 t128 _ A3.out).mono ?_); rintro e w' ⟨rfl, ⟨nd, rfl⟩⟩; refine ⟨_, rfl, ?_⟩) | ((with_reducible refine gate_callee (f := 10) rfl ?_); refine goesL_ (some 16) rfl rfl Try.func10 (by kernel_rfl) rfl #[.int .i64 (Go.bits .and .i64 a1 65535), .string t128] rfl (by (try simp only [List.map_toArray, List.map_cons, List.map_nil]); first | done | rfl | (simp only [List.length_drop, List.length_take]; rfl)) ?_; (with_reducible refine (chunk_Split.calls k (Go.bits .and .i64 a1 65535) t128 t129 _ A4.out).mono ?_); rintro e w7 ⟨v130, rfl, ho0, hb⟩; refine ⟨_, rfl, ?_⟩; have n0_ := Aside0.mk (Kd.R_lower ho0 (below_size (by repeat (first | (with_reducible first | exact HB.out | apply below_alloc | apply pw_below_drewN | apply below_drew1) | exact HB.out)))); have n1_ := Aside0.mk (below_step (by repeat (first | (with_reducible first | exact HB.out | apply below_alloc | apply pw_below_drewN | apply below_drew1) | exact HB.out)) hb); clear HB; have HO131 := n0_; have HB := n1_; clear n0_ n1_; (try clear hb); (try clear hb2); (try clear hk); (try clear hi); (try clear ho0)) | ((with_reducible refine gate_callee (f := 11) rfl ?_); refine goesL_ (some 19) rfl rfl Try.func11 (by kernel_rfl) rfl #[.int .i64 (Go.bits .and .i64 a1 65535), .string t128] rfl (by (try simp only [List.map_toArray, List.map_cons, List.map_nil]); first | done | rfl | (simp only [List.length_drop, List.length_take]; rfl)) ?_; (with_reducible refine (cotillionref11_Split.calls k (Go.bits .and .i64 a1 65535) t128 t132 _ A5.out).mono ?_); rintro e w8 ⟨v133, rfl, ho0, hb⟩; refine ⟨_, rfl, ?_⟩; have n0_ := Aside0.mk (Kd.R_below (by (with_reducible repeat (first | apply Kd.R_alloc | apply Kd.R_drewN | apply Kd.R_drew)); exact HO131.out) hb); have n1_ := Aside0.mk (Kd.R_lower ho0 (below_size (by repeat (first | (with_reducible first | exact HB.out | apply below_alloc | apply pw_below_drewN | apply below_drew1) | exact HB.out)))); have n2_ := Aside0.mk (below_step (by repeat (first | (with_reducible first | exact HB.out | apply below_alloc | apply pw_below_drewN | apply below_drew1) | exact HB.out)) hb); clear HO131; clear HB; have HO131 := n0_; have HO134 := n1_; have HB := n2_; clear n0_ n1_ n2_; (try clear hb); (try clear hb2); (try clear hk); (try clear hi); (try clear ho0)))
  (try simp only [Act.put, List.setIfInBounds_toArray, List.set_cons_zero, List.set_cons_succ])
  go_cut [40] (fun v40 wc => ∃ (kq : Nat) (x40_5 : Bool), v40 = .bool x40_5 ∧ Aside0 (cotillionlaw11_ChunkSplits.j0 kq t128 t129 t132 x40_5 = some r) ∧ Aside0 (kq ≤ k) ∧ Aside0 (Kd.R k31 31 wc w.heap.size (fun _ => True) v130 t129) ∧ Aside0 (Kd.R k32 32 wc w.heap.size (fun _ => True) v133 t132) ∧ Aside0 (Below w.heap.size w wc))
  case first =>
    have H := HC6.out
    clear HC6
    replace H := Option.bind_eq_some_iff.mp H
    obtain ⟨t135, A90, H⟩ := H
    replace H : (if t135 = true then (if (t129.length : Int) = (t132.length : Int) then ((chunk_Count.f (t128.size : Int)).bind fun t136 => (if (t129.length : Int) = t136 then ((chunk_Count.f (-5)).bind fun t137 => (cotillionlaw11_ChunkSplits.j0 k t128 t129 t132 (t137 != 0))) else (cotillionlaw11_ChunkSplits.j0 k t128 t129 t132 true))) else (cotillionlaw11_ChunkSplits.j0 k t128 t129 t132 true)) else (cotillionlaw11_ChunkSplits.j0 k t128 t129 t132 true)) = some r := H
    have A9 := Aside0.mk A90
    clear A90
    by_cases c10 : t135 = true
    · subst c10
      have H1 : (if (t129.length : Int) = (t132.length : Int) then ((chunk_Count.f (t128.size : Int)).bind fun t136 => (if (t129.length : Int) = t136 then ((chunk_Count.f (-5)).bind fun t137 => (cotillionlaw11_ChunkSplits.j0 k t128 t129 t132 (t137 != 0))) else (cotillionlaw11_ChunkSplits.j0 k t128 t129 t132 true))) else (cotillionlaw11_ChunkSplits.j0 k t128 t129 t132 true)) = some r := by rw [if_pos rfl] at H; exact H
      clear H
      have H := H1
      clear H1
      by_cases c11 : (t129.length : Int) = (t132.length : Int)
      · rw [if_pos c11] at H
        have c11b0 : ((t129.length : Int) == (t132.length : Int)) = true := beq_iff_eq.mpr c11
        have c11b1 : ((t129.length : Int) != (t132.length : Int)) = false := bne_eq_false_iff_eq.mpr c11
        have c11b2 : (t129.length == t132.length) = true := by first | simpa using c11 | (simp at c11 ⊢; omega)
        clear c11
        (first | rw [c11b0] | (simp only [i64_w, i32_w]; rw [c11b0]) | skip)
        replace H := Option.bind_eq_some_iff.mp H
        obtain ⟨t136, A120, H⟩ := H
        replace H : (if (t129.length : Int) = t136 then ((chunk_Count.f (-5)).bind fun t137 => (cotillionlaw11_ChunkSplits.j0 k t128 t129 t132 (t137 != 0))) else (cotillionlaw11_ChunkSplits.j0 k t128 t129 t132 true)) = some r := H
        have A12 := Aside0.mk A120
        clear A120
        by_cases c13 : (t129.length : Int) = t136
        · rw [if_pos c13] at H
          have c13b0 : ((t129.length : Int) == t136) = true := beq_iff_eq.mpr c13
          have c13b1 : ((t129.length : Int) != t136) = false := bne_eq_false_iff_eq.mpr c13
          clear c13
          replace H := Option.bind_eq_some_iff.mp H
          obtain ⟨t137, A140, H⟩ := H
          replace H : (cotillionlaw11_ChunkSplits.j0 k t128 t129 t132 (t137 != 0)) = some r := H
          have A14 := Aside0.mk A140
          clear A140
          have H' := Aside0.mk H
          clear H
          go_wp2_with (first | ((with_reducible refine gate_callee (f := 12) rfl ?_); refine goesL_ (some 20) rfl rfl Try.func12 (by kernel_rfl) rfl #[] rfl (by (try simp only [List.map_toArray, List.map_cons, List.map_nil]); first | done | rfl | (simp only [List.length_drop, List.length_take]; rfl)) ?_; (with_reducible refine (cotillionlaw11_awake.calls  true _ A9.out).mono ?_); rintro e w15 ⟨rfl, hb⟩; refine ⟨_, rfl, ?_⟩; have n0_ := Aside0.mk (Kd.R_below (by (with_reducible repeat (first | apply Kd.R_alloc | apply Kd.R_drewN | apply Kd.R_drew)); exact HO131.out) hb); have n1_ := Aside0.mk (Kd.R_below (by (with_reducible repeat (first | apply Kd.R_alloc | apply Kd.R_drewN | apply Kd.R_drew)); exact HO134.out) hb); have n2_ := Aside0.mk (below_step (by repeat (first | (with_reducible first | exact HB.out | apply below_alloc | apply pw_below_drewN | apply below_drew1) | exact HB.out)) hb); clear HO131; clear HO134; clear HB; have HO131 := n0_; have HO134 := n1_; have HB := n2_; clear n0_ n1_ n2_; (try clear hb); (try clear hb2); (try clear hk); (try clear hi); obtain ⟨Ao16, co16, eo16⟩ := Kd.R_slice HO131.out; subst eo16; obtain ⟨Ao17, co17, eo17⟩ := Kd.R_slice HO134.out; subst eo17) | (go_at_call 13; (with_reducible refine (chunk_Count.calls (t128.size : Int) t136 _ A12.out).mono ?_); rintro e w18 ⟨rfl, hb⟩; have n0_ := Aside0.mk (Kd.R_below (by (with_reducible repeat (first | apply Kd.R_alloc | apply Kd.R_drewN | apply Kd.R_drew)); exact HO131.out) hb); have n1_ := Aside0.mk (Kd.R_below (by (with_reducible repeat (first | apply Kd.R_alloc | apply Kd.R_drewN | apply Kd.R_drew)); exact HO134.out) hb); have n2_ := Aside0.mk (below_step (by repeat (first | (with_reducible first | exact HB.out | apply below_alloc | apply pw_below_drewN | apply below_drew1) | exact HB.out)) hb); clear HO131; clear HO134; clear HB; have HO131 := n0_; have HO134 := n1_; have HB := n2_; clear n0_ n1_ n2_; (try clear hb); (try clear hb2); (try clear hk); (try clear hi)) | (go_at_call 13; (with_reducible refine (chunk_Count.calls (-5) t137 _ A14.out).mono ?_); rintro e w19 ⟨rfl, hb⟩; have n0_ := Aside0.mk (Kd.R_below (by (with_reducible repeat (first | apply Kd.R_alloc | apply Kd.R_drewN | apply Kd.R_drew)); exact HO131.out) hb); have n1_ := Aside0.mk (Kd.R_below (by (with_reducible repeat (first | apply Kd.R_alloc | apply Kd.R_drewN | apply Kd.R_drew)); exact HO134.out) hb); have n2_ := Aside0.mk (below_step (by repeat (first | (with_reducible first | exact HB.out | apply below_alloc | apply pw_below_drewN | apply below_drew1) | exact HB.out)) hb); clear HO131; clear HO134; clear HB; have HO131 := n0_; have HO134 := n1_; have HB := n2_; clear n0_ n1_ n2_; (try clear hb); (try clear hb2); (try clear hk); (try clear hi)))
          go_meet
          case rel => exact ⟨_, ((t137 != 0)), (by first | rfl | (simp; done) | (simp [*]; done)), H', ⟨by first | omega | exact Nat.le_refl _⟩, ⟨by (with_reducible repeat (first | apply Kd.R_alloc | apply Kd.R_drewN | apply Kd.R_drew)); exact HO131.out⟩, ⟨by (with_reducible repeat (first | apply Kd.R_alloc | apply Kd.R_drewN | apply Kd.R_drew)); exact HO134.out⟩, ⟨by repeat (first | (with_reducible first | exact HB.out | apply below_alloc | apply pw_below_drewN | apply below_drew1) | exact HB.out)⟩⟩
        · rw [if_neg c13] at H
          have c13b0 : ((t129.length : Int) == t136) = false := beq_eq_false_iff_ne.mpr c13
          have c13b1 : ((t129.length : Int) != t136) = true := bne_iff_ne.mpr c13
          have H' := Aside0.mk H
          clear H
          go_wp2_with (first | ((with_reducible refine gate_callee (f := 12) rfl ?_); refine goesL_ (some 20) rfl rfl Try.func12 (by kernel_rfl) rfl #[] rfl (by (try simp only [List.map_toArray, List.map_cons, List.map_nil]); first | done | rfl | (simp only [List.length_drop, List.length_take]; rfl)) ?_; (with_reducible refine (cotillionlaw11_awake.calls  true _ A9.out).mono ?_); rintro e w20 ⟨rfl, hb⟩; refine ⟨_, rfl, ?_⟩; have n0_ := Aside0.mk (Kd.R_below (by (with_reducible repeat (first | apply Kd.R_alloc | apply Kd.R_drewN | apply Kd.R_drew)); exact HO131.out) hb); have n1_ := Aside0.mk (Kd.R_below (by (with_reducible repeat (first | apply Kd.R_alloc | apply Kd.R_drewN | apply Kd.R_drew)); exact HO134.out) hb); have n2_ := Aside0.mk (below_step (by repeat (first | (with_reducible first | exact HB.out | apply below_alloc | apply pw_below_drewN | apply below_drew1) | exact HB.out)) hb); clear HO131; clear HO134; clear HB; have HO131 := n0_; have HO134 := n1_; have HB := n2_; clear n0_ n1_ n2_; (try clear hb); (try clear hb2); (try clear hk); (try clear hi); obtain ⟨Ao21, co21, eo21⟩ := Kd.R_slice HO131.out; subst eo21; obtain ⟨Ao22, co22, eo22⟩ := Kd.R_slice HO134.out; subst eo22) | (go_at_call 13; (with_reducible refine (chunk_Count.calls (t128.size : Int) t136 _ A12.out).mono ?_); rintro e w23 ⟨rfl, hb⟩; have n0_ := Aside0.mk (Kd.R_below (by (with_reducible repeat (first | apply Kd.R_alloc | apply Kd.R_drewN | apply Kd.R_drew)); exact HO131.out) hb); have n1_ := Aside0.mk (Kd.R_below (by (with_reducible repeat (first | apply Kd.R_alloc | apply Kd.R_drewN | apply Kd.R_drew)); exact HO134.out) hb); have n2_ := Aside0.mk (below_step (by repeat (first | (with_reducible first | exact HB.out | apply below_alloc | apply pw_below_drewN | apply below_drew1) | exact HB.out)) hb); clear HO131; clear HO134; clear HB; have HO131 := n0_; have HO134 := n1_; have HB := n2_; clear n0_ n1_ n2_; (try clear hb); (try clear hb2); (try clear hk); (try clear hi)))
          go_meet
          case rel => exact ⟨_, (true), (by first | rfl | (simp; done) | (simp [*]; done)), H', ⟨by first | omega | exact Nat.le_refl _⟩, ⟨by (with_reducible repeat (first | apply Kd.R_alloc | apply Kd.R_drewN | apply Kd.R_drew)); exact HO131.out⟩, ⟨by (with_reducible repeat (first | apply Kd.R_alloc | apply Kd.R_drewN | apply Kd.R_drew)); exact HO134.out⟩, ⟨by repeat (first | (with_reducible first | exact HB.out | apply below_alloc | apply pw_below_drewN | apply below_drew1) | exact HB.out)⟩⟩
      · rw [if_neg c11] at H
        have c11b0 : ((t129.length : Int) == (t132.length : Int)) = false := beq_eq_false_iff_ne.mpr c11
        have c11b1 : ((t129.length : Int) != (t132.length : Int)) = true := bne_iff_ne.mpr c11
        have c11b2 : (t129.length == t132.length) = false := by first | simpa using c11 | (simp at c11 ⊢; omega)
        (first | rw [c11b0] | (simp only [i64_w, i32_w]; rw [c11b0]) | skip)
        have H' := Aside0.mk H
        clear H
        go_wp2_with (first | ((with_reducible refine gate_callee (f := 12) rfl ?_); refine goesL_ (some 20) rfl rfl Try.func12 (by kernel_rfl) rfl #[] rfl (by (try simp only [List.map_toArray, List.map_cons, List.map_nil]); first | done | rfl | (simp only [List.length_drop, List.length_take]; rfl)) ?_; (with_reducible refine (cotillionlaw11_awake.calls  true _ A9.out).mono ?_); rintro e w24 ⟨rfl, hb⟩; refine ⟨_, rfl, ?_⟩; have n0_ := Aside0.mk (Kd.R_below (by (with_reducible repeat (first | apply Kd.R_alloc | apply Kd.R_drewN | apply Kd.R_drew)); exact HO131.out) hb); have n1_ := Aside0.mk (Kd.R_below (by (with_reducible repeat (first | apply Kd.R_alloc | apply Kd.R_drewN | apply Kd.R_drew)); exact HO134.out) hb); have n2_ := Aside0.mk (below_step (by repeat (first | (with_reducible first | exact HB.out | apply below_alloc | apply pw_below_drewN | apply below_drew1) | exact HB.out)) hb); clear HO131; clear HO134; clear HB; have HO131 := n0_; have HO134 := n1_; have HB := n2_; clear n0_ n1_ n2_; (try clear hb); (try clear hb2); (try clear hk); (try clear hi); obtain ⟨Ao25, co25, eo25⟩ := Kd.R_slice HO131.out; subst eo25; obtain ⟨Ao26, co26, eo26⟩ := Kd.R_slice HO134.out; subst eo26))
        go_meet
        case rel => exact ⟨_, (true), (by first | rfl | (simp; done) | (simp [*]; done)), H', ⟨by first | omega | exact Nat.le_refl _⟩, ⟨by (with_reducible repeat (first | apply Kd.R_alloc | apply Kd.R_drewN | apply Kd.R_drew)); exact HO131.out⟩, ⟨by (with_reducible repeat (first | apply Kd.R_alloc | apply Kd.R_drewN | apply Kd.R_drew)); exact HO134.out⟩, ⟨by repeat (first | (with_reducible first | exact HB.out | apply below_alloc | apply pw_below_drewN | apply below_drew1) | exact HB.out)⟩⟩
    · replace c10 := Bool.eq_false_iff.mpr c10
      subst c10
      have H1 : (cotillionlaw11_ChunkSplits.j0 k t128 t129 t132 true) = some r := by rw [if_neg (show ¬ (false = true) by decide)] at H; exact H
      clear H
      have H := H1
      clear H1
      have H' := Aside0.mk H
      clear H
      go_wp2_with (first | ((with_reducible refine gate_callee (f := 12) rfl ?_); refine goesL_ (some 20) rfl rfl Try.func12 (by kernel_rfl) rfl #[] rfl (by (try simp only [List.map_toArray, List.map_cons, List.map_nil]); first | done | rfl | (simp only [List.length_drop, List.length_take]; rfl)) ?_; (with_reducible refine (cotillionlaw11_awake.calls  false _ A9.out).mono ?_); rintro e w27 ⟨rfl, hb⟩; refine ⟨_, rfl, ?_⟩; have n0_ := Aside0.mk (Kd.R_below (by (with_reducible repeat (first | apply Kd.R_alloc | apply Kd.R_drewN | apply Kd.R_drew)); exact HO131.out) hb); have n1_ := Aside0.mk (Kd.R_below (by (with_reducible repeat (first | apply Kd.R_alloc | apply Kd.R_drewN | apply Kd.R_drew)); exact HO134.out) hb); have n2_ := Aside0.mk (below_step (by repeat (first | (with_reducible first | exact HB.out | apply below_alloc | apply pw_below_drewN | apply below_drew1) | exact HB.out)) hb); clear HO131; clear HO134; clear HB; have HO131 := n0_; have HO134 := n1_; have HB := n2_; clear n0_ n1_ n2_; (try clear hb); (try clear hb2); (try clear hk); (try clear hi)))
      go_meet
      case rel => exact ⟨_, (true), (by first | rfl | (simp; done) | (simp [*]; done)), H', ⟨by first | omega | exact Nat.le_refl _⟩, ⟨by (with_reducible repeat (first | apply Kd.R_alloc | apply Kd.R_drewN | apply Kd.R_drew)); exact HO131.out⟩, ⟨by (with_reducible repeat (first | apply Kd.R_alloc | apply Kd.R_drewN | apply Kd.R_drew)); exact HO134.out⟩, ⟨by repeat (first | (with_reducible first | exact HB.out | apply below_alloc | apply pw_below_drewN | apply below_drew1) | exact HB.out)⟩⟩
  case rest =>
    clear HC6
    try clear c1
    try clear p2
    try clear c3
    try clear c9
    try clear c10
    try clear c11
    try clear c11b0
    try clear c11b1
    try clear c11b2
    try clear c12
    try clear c13
    try clear c13b0
    try clear c13b1
    obtain ⟨kq, x40_5, rfl, HA, HJ5, HO_5, HO_6, HB⟩ := hcut
    cases kq with
    | zero => exact absurd HA.out (by simp [cotillionlaw11_ChunkSplits.j0])
    | succ kj5 =>
      have H := HA.out
      clear HA
      simp only [cotillionlaw11_ChunkSplits.j0] at H
      by_cases c28 : x40_5 = true
      · subst c28
        have H1 : (some false) = some r := by rw [if_pos rfl] at H; exact H
        clear H
        have H := H1
        clear H1
        obtain rfl := Option.some.inj H
        exact absurd ht_ (by decide)
      · replace c28 := Bool.eq_false_iff.mpr c28
        subst c28
        have H1 : (cotillionlaw11_ChunkSplits.l0 kj5 t128 t129 t132 (⟨#[]⟩ : ByteArray) t129 (t129.length : Int) 0) = some r := by rw [if_neg (show ¬ (false = true) by decide)] at H; exact H
        clear H
        have H := H1
        clear H1
        have H' := Aside0.mk H
        clear H
        obtain ⟨Ao29, co29, eo29⟩ := Kd.R_slice HO_5.out
        subst eo29
        go_wp2
        go_loopg [7, 43] kj5 (fun kq v7 v43 w' => ∃ (x7_2 : ByteArray) (x43_2 : Int), v7 = .string x7_2 ∧ v43 = .int .i64 x43_2 ∧ Aside0 (cotillionlaw11_ChunkSplits.l0 kq t128 t129 t132 x7_2 t129 (t129.length : Int) x43_2 = some r) ∧ Aside0 (kq ≤ kj5) ∧ Aside0 (Kd.R k31 31 w' w.heap.size (fun _ => True) (.slice Ao29 t129.length co29) t129) ∧ Aside0 (Kd.R k32 32 w' w.heap.size (fun _ => True) v133 t132) ∧ Aside0 (Kd.R k31 31 w' w.heap.size (fun _ => True) (.slice Ao29 t129.length co29) t129) ∧ Aside0 (Below w.heap.size w w'))
        case atStart => exact ⟨((⟨#[]⟩ : ByteArray)), (0), (by first | rfl | (simp; done) | (simp [*]; done)), (by first | rfl | (simp; done) | (simp [*]; done)), H', ⟨Nat.le_refl _⟩, ⟨by (with_reducible repeat (first | apply Kd.R_alloc | apply Kd.R_drewN | apply Kd.R_drew)); exact HO_5.out⟩, ⟨by (with_reducible repeat (first | apply Kd.R_alloc | apply Kd.R_drewN | apply Kd.R_drew)); exact HO_6.out⟩, ⟨by (with_reducible repeat (first | apply Kd.R_alloc | apply Kd.R_drewN | apply Kd.R_drew)); exact HO_5.out⟩, ⟨by repeat (first | (with_reducible first | exact HB.out | apply below_alloc | apply pw_below_drewN | apply below_drew1) | exact HB.out)⟩⟩
        case round =>
          clear H'
          try clear c1
          try clear c2
          try clear p2
          try clear c3
          try clear c9
          try clear c10
          try clear c11
          try clear c11b0
          try clear c11b1
          try clear c11b2
          try clear c12
          try clear c13
          try clear c13b0
          try clear c13b1
          try clear c28
          try clear p2
          obtain ⟨x7_2, x43_2, rfl, rfl, HA, HK2, HO_5, HO_6, HO_41, HB⟩ := hrel
          cases gk with
          | zero => exact absurd HA.out (by simp [cotillionlaw11_ChunkSplits.l0])
          | succ k2 =>
            have H := HA.out
            clear HA
            simp only [cotillionlaw11_ChunkSplits.l0] at H
            by_cases c30 : x43_2 < (t129.length : Int)
            · rw [if_pos c30] at H
              have c30b0 : decide (x43_2 < (t129.length : Int)) = true := decide_eq_true c30
              clear c30
              by_cases c31 : 0 ≤ x43_2
              · rw [if_pos c31] at H
                have c31b0 : decide (0 ≤ x43_2) = true := decide_eq_true c31
                clear c31
                by_cases c32 : x43_2 < (t129.length : Int)
                · rw [if_pos c32] at H
                  have c32b0 : decide (x43_2 < (t129.length : Int)) = true := decide_eq_true c32
                  clear c32
                  by_cases c33 : x7_2.size + ((rd_T31 t129 x43_2).f4).size ≤ 9223372036854775807
                  · rw [if_pos c33] at H
                    have c33b0 := eq_true c33
                    have c33b1 : decide (x7_2.size + ((rd_T31 t129 x43_2).f4).size ≤ 9223372036854775807) = true := decide_eq_true c33
                    try have c33b2 : (9223372036854775807 < x7_2.size + ((rd_T31 t129 x43_2).f4).size) = False := eq_false (Nat.not_lt.2 c33)
                    replace H := Option.bind_eq_some_iff.mp H
                    obtain ⟨⟨t140, t141, t142, t143, t144⟩, A340, H⟩ := H
                    replace H : (if x43_2 < (t132.length : Int) then (if (!(t140 == ((rd_T32 t132 x43_2).f0)) || (!(t141 == ((rd_T32 t132 x43_2).f1)) || (!(t142 == ((rd_T32 t132 x43_2).f2)) || (!(t143 == ((rd_T32 t132 x43_2).f3)) || (!(t144.toList == (((rd_T32 t132 x43_2).f4).toList))))))) = true then (some false) else ((chunk_Piece_Check.f k2 ((rd_T31 t129 x43_2).f0) ((rd_T31 t129 x43_2).f1) ((rd_T31 t129 x43_2).f2) ((rd_T31 t129 x43_2).f3) ((rd_T31 t129 x43_2).f4)).bind fun t146 => (if t146 = 0 then ((chunk_Piece_Head.f ((rd_T31 t129 x43_2).f0) ((rd_T31 t129 x43_2).f1) ((rd_T31 t129 x43_2).f2) ((rd_T31 t129 x43_2).f3) ((rd_T31 t129 x43_2).f4)).bind fun bt147 => (if 0 < (t129.length : Int) then ((chunk_Piece_Head.f ((rd_T31 t129 0).f0) ((rd_T31 t129 0).f1) ((rd_T31 t129 0).f2) ((rd_T31 t129 0).f3) ((rd_T31 t129 0).f4)).bind fun bt151 => (if (!(bt147.1 == bt151.1) || (!(bt147.2.1 == bt151.2.1) || (!(bt147.2.2 == bt151.2.2)))) = true then (some false) else (cotillionlaw11_ChunkSplits.l0 k2 t128 t129 t132 (x7_2 ++ ((rd_T31 t129 x43_2).f4)) t129 (t129.length : Int) (wrap64 (x43_2 + 1))))) else (none))) else (some false)))) else (none)) = some r := H
                    have A34 := Aside0.mk A340
                    clear A340
                    by_cases c35 : x43_2 < (t132.length : Int)
                    · rw [if_pos c35] at H
                      have c35b0 : decide (x43_2 < (t132.length : Int)) = true := decide_eq_true c35
                      clear c35
                      by_cases c36 : (!(t140 == ((rd_T32 t132 x43_2).f0)) || (!(t141 == ((rd_T32 t132 x43_2).f1)) || (!(t142 == ((rd_T32 t132 x43_2).f2)) || (!(t143 == ((rd_T32 t132 x43_2).f3)) || (!(t144.toList == (((rd_T32 t132 x43_2).f4).toList))))))) = true
                      · rw [if_pos c36] at H
                        have c36b0 : (!(t140 == ((rd_T32 t132 x43_2).f0)) || (!(t141 == ((rd_T32 t132 x43_2).f1)) || (!(t142 == ((rd_T32 t132 x43_2).f2)) || (!(t143 == ((rd_T32 t132 x43_2).f3)) || (!(t144.toList == (((rd_T32 t132 x43_2).f4).toList))))))) = true := c36
                        clear c36
                        obtain rfl := Option.some.inj H
                        exact absurd ht_ (by decide)
                      · rw [if_neg c36] at H
                        have c36b0 : (!(t140 == ((rd_T32 t132 x43_2).f0)) || (!(t141 == ((rd_T32 t132 x43_2).f1)) || (!(t142 == ((rd_T32 t132 x43_2).f2)) || (!(t143 == ((rd_T32 t132 x43_2).f3)) || (!(t144.toList == (((rd_T32 t132 x43_2).f4).toList))))))) = false := by simpa using c36
                        clear c36
                        replace H := Option.bind_eq_some_iff.mp H
                        obtain ⟨t146, A370, H⟩ := H
                        replace H : (if t146 = 0 then ((chunk_Piece_Head.f ((rd_T31 t129 x43_2).f0) ((rd_T31 t129 x43_2).f1) ((rd_T31 t129 x43_2).f2) ((rd_T31 t129 x43_2).f3) ((rd_T31 t129 x43_2).f4)).bind fun bt147 => (if 0 < (t129.length : Int) then ((chunk_Piece_Head.f ((rd_T31 t129 0).f0) ((rd_T31 t129 0).f1) ((rd_T31 t129 0).f2) ((rd_T31 t129 0).f3) ((rd_T31 t129 0).f4)).bind fun bt151 => (if (!(bt147.1 == bt151.1) || (!(bt147.2.1 == bt151.2.1) || (!(bt147.2.2 == bt151.2.2)))) = true then (some false) else (cotillionlaw11_ChunkSplits.l0 k2 t128 t129 t132 (x7_2 ++ ((rd_T31 t129 x43_2).f4)) t129 (t129.length : Int) (wrap64 (x43_2 + 1))))) else (none))) else (some false)) = some r := H
                        have A37 := Aside0.mk A370
                        clear A370
                        by_cases c38 : t146 = 0
                        · rw [if_pos c38] at H
                          have c38b0 : (t146 == 0) = true := beq_iff_eq.mpr c38
                          have c38b1 : (t146 != 0) = false := bne_eq_false_iff_eq.mpr c38
                          clear c38
                          replace H := Option.bind_eq_some_iff.mp H
                          obtain ⟨⟨t147, t148, t149⟩, A390, H⟩ := H
                          replace H : (if 0 < (t129.length : Int) then ((chunk_Piece_Head.f ((rd_T31 t129 0).f0) ((rd_T31 t129 0).f1) ((rd_T31 t129 0).f2) ((rd_T31 t129 0).f3) ((rd_T31 t129 0).f4)).bind fun bt151 => (if (!(t147 == bt151.1) || (!(t148 == bt151.2.1) || (!(t149 == bt151.2.2)))) = true then (some false) else (cotillionlaw11_ChunkSplits.l0 k2 t128 t129 t132 (x7_2 ++ ((rd_T31 t129 x43_2).f4)) t129 (t129.length : Int) (wrap64 (x43_2 + 1))))) else (none)) = some r := H
                          have A39 := Aside0.mk A390
                          clear A390
                          by_cases c40 : 0 < (t129.length : Int)
                          · rw [if_pos c40] at H
                            have c40b0 : decide (0 < (t129.length : Int)) = true := decide_eq_true c40
                            have c40b1 : decide (0 < t129.length) = true := decide_eq_true (by omega)
                            clear c40
                            replace H := Option.bind_eq_some_iff.mp H
                            obtain ⟨⟨t151, t152, t153⟩, A410, H⟩ := H
                            replace H : (if (!(t147 == t151) || (!(t148 == t152) || (!(t149 == t153)))) = true then (some false) else (cotillionlaw11_ChunkSplits.l0 k2 t128 t129 t132 (x7_2 ++ ((rd_T31 t129 x43_2).f4)) t129 (t129.length : Int) (wrap64 (x43_2 + 1)))) = some r := H
                            have A41 := Aside0.mk A410
                            clear A410
                            by_cases c42 : (!(t147 == t151) || (!(t148 == t152) || (!(t149 == t153)))) = true
                            · rw [if_pos c42] at H
                              have c42b0 : (!(t147 == t151) || (!(t148 == t152) || (!(t149 == t153)))) = true := c42
                              clear c42
                              obtain rfl := Option.some.inj H
                              exact absurd ht_ (by decide)
                            · rw [if_neg c42] at H
                              have c42b0 : (!(t147 == t151) || (!(t148 == t152) || (!(t149 == t153)))) = false := by simpa using c42
                              clear c42
                              have H' := Aside0.mk H
                              clear H
                              have p138 : 0 ≤ (x43_2 : Int) := of_decide_eq_true (by first | (with_reducible assumption) | assumption)
                              have q138 : x43_2 < (t129.length : Int) := of_decide_eq_true (by first | (with_reducible assumption) | assumption)
                              obtain ⟨ad138, e138, hx138_0, hx138_1, hx138_2, hx138_3, hx138_4⟩ := at_T31 (Kd.R_reads' HO_41.out).2.2 x43_2 p138 q138
                              cases e138
                              replace p138 := eq_true p138
                              replace q138 := eq_true q138
                              try go_wp2_with (first | ((with_reducible refine gate_dst (N := 9) rfl ?_); (try (refine gate_guard (by rfl) ?_; dsimp only)); refine box_event ?hg (N := 9) ?hd (cs := #[.int .i64 0, .int .i64 0, .int .u64 0, .int .i64 0, .string (⟨#[]⟩ : ByteArray)]) (t := 31) ?hr ?_; (case hd => rfl); (case hg => rfl); (case hr => first | (go_simp; done) | (go_simp; rfl)); intro gb139 hg w43 hbox hb; have n0_ := Aside0.mk (Kd.R_below (Kd.R_elderB (by (with_reducible repeat (first | apply Kd.R_alloc | apply Kd.R_drewN | apply Kd.R_drew)); exact HO_5.out) gb139 (Nat.le_of_eq hg.symm)) hb); have n1_ := Aside0.mk (Kd.R_below (by (with_reducible repeat (first | apply Kd.R_alloc | apply Kd.R_drewN | apply Kd.R_drew)); exact HO_6.out) hb); have n2_ := Aside0.mk (Kd.R_below (Kd.R_elderB (by (with_reducible repeat (first | apply Kd.R_alloc | apply Kd.R_drewN | apply Kd.R_drew)); exact HO_41.out) gb139 (Nat.le_of_eq hg.symm)) hb); have n3_ := Aside0.mk (below_step (by repeat (first | (with_reducible first | exact HB.out | apply below_alloc | apply pw_below_drewN | apply below_drew1) | exact HB.out)) hb); have n4_ := Aside0.mk (hbox); have n5_ := Aside0.mk ((by rw [hg]; exact (below_size (by repeat (first | (with_reducible first | exact HB.out | apply below_alloc | apply pw_below_drewN | apply below_drew1) | exact HB.out))) : w.heap.size ≤ gb139)); have n6_ := Aside0.mk ((by rw [hg]; exact (below_size (by repeat (first | (with_reducible first | exact HB.out | apply below_alloc | apply pw_below_drewN | apply below_drew1) | exact HB.out))) : w.heap.size ≤ gb139)); clear HO_5; clear HO_6; clear HO_41; clear HB; have HO_5 := n0_; have HO_6 := n1_; have HO_41 := n2_; have HB := n3_; have BK139 := n4_; have GW139 := n5_; have GE139 := n6_; clear n0_ n1_ n2_ n3_ n4_ n5_ n6_; clear hb hbox hg; have hcz44_0 : w43.cell? ⟨gb139, 0, none⟩ = some (.int .i64 0) := (blk_cell BK139.out 0).trans rfl; have hcz44_1 : w43.cell? ⟨gb139, 1, none⟩ = some (.int .i64 0) := (blk_cell BK139.out 1).trans rfl; have hcz44_2 : w43.cell? ⟨gb139, 2, none⟩ = some (.int .u64 0) := (blk_cell BK139.out 2).trans rfl; have hcz44_3 : w43.cell? ⟨gb139, 3, none⟩ = some (.int .i64 0) := (blk_cell BK139.out 3).trans rfl; have hcz44_4 : w43.cell? ⟨gb139, 4, none⟩ = some (.string (⟨#[]⟩ : ByteArray)) := (blk_cell BK139.out 4).trans rfl; have hfz44_0 := blk_frozen BK139.out 0; have hfz44_1 := blk_frozen BK139.out 1; have hfz44_2 := blk_frozen BK139.out 2; have hfz44_3 := blk_frozen BK139.out 3; have hfz44_4 := blk_frozen BK139.out 4))
                              have n0_ : Aside0 (Kd.R k31 31 (((((w43.setCell ⟨gb139, 0, none⟩ (.int .i64 ((rd_T31 t129 x43_2).f0))).setCell ⟨gb139, 1, none⟩ (.int .i64 ((rd_T31 t129 x43_2).f1))).setCell ⟨gb139, 2, none⟩ (.int .u64 ((rd_T31 t129 x43_2).f2))).setCell ⟨gb139, 3, none⟩ (.int .i64 ((rd_T31 t129 x43_2).f3))).setCell ⟨gb139, 4, none⟩ (.string ((rd_T31 t129 x43_2).f4))) w.heap.size (fun k_ => k_ ≠ gb139) (.slice (some ad138) t129.length co29) t129) := ⟨by (with_reducible repeat (first | apply Kd.R_alloc | apply Kd.R_drewN | apply Kd.R_drew)); exact Kd.R_mono (Kd.R_far (p := ⟨gb139, 4, none⟩) (Kd.R_far (p := ⟨gb139, 3, none⟩) (Kd.R_far (p := ⟨gb139, 2, none⟩) (Kd.R_far (p := ⟨gb139, 1, none⟩) (Kd.R_far (p := ⟨gb139, 0, none⟩) (Kd.R_mono HO_5.out (fun k_ hk => (⟨hk, hk.2⟩ : _ ∧ k_ ≠ gb139))) (fun _ hk => hk.2) (.int .i64 ((rd_T31 t129 x43_2).f0))) (fun _ hk => hk.2) (.int .i64 ((rd_T31 t129 x43_2).f1))) (fun _ hk => hk.2) (.int .u64 ((rd_T31 t129 x43_2).f2))) (fun _ hk => hk.2) (.int .i64 ((rd_T31 t129 x43_2).f3))) (fun _ hk => hk.2) (.string ((rd_T31 t129 x43_2).f4))) (fun _ hk => hk.1.2)⟩
                              have n1_ : Aside0 (Kd.R k32 32 (((((w43.setCell ⟨gb139, 0, none⟩ (.int .i64 ((rd_T31 t129 x43_2).f0))).setCell ⟨gb139, 1, none⟩ (.int .i64 ((rd_T31 t129 x43_2).f1))).setCell ⟨gb139, 2, none⟩ (.int .u64 ((rd_T31 t129 x43_2).f2))).setCell ⟨gb139, 3, none⟩ (.int .i64 ((rd_T31 t129 x43_2).f3))).setCell ⟨gb139, 4, none⟩ (.string ((rd_T31 t129 x43_2).f4))) w.heap.size (fun _ => True) v133 t132) := ⟨by (with_reducible repeat (first | apply Kd.R_alloc | apply Kd.R_drewN | apply Kd.R_drew)); exact Kd.R_mono (Kd.R_far (p := ⟨gb139, 4, none⟩) (Kd.R_far (p := ⟨gb139, 3, none⟩) (Kd.R_far (p := ⟨gb139, 2, none⟩) (Kd.R_far (p := ⟨gb139, 1, none⟩) (Kd.R_far (p := ⟨gb139, 0, none⟩) (Kd.R_types HO_6.out BK139.out (by decide)) (fun _ hk => hk.2) (.int .i64 ((rd_T31 t129 x43_2).f0))) (fun _ hk => hk.2) (.int .i64 ((rd_T31 t129 x43_2).f1))) (fun _ hk => hk.2) (.int .u64 ((rd_T31 t129 x43_2).f2))) (fun _ hk => hk.2) (.int .i64 ((rd_T31 t129 x43_2).f3))) (fun _ hk => hk.2) (.string ((rd_T31 t129 x43_2).f4))) (fun _ hk => trivial)⟩
                              have n2_ : Aside0 (Kd.R k31 31 (((((w43.setCell ⟨gb139, 0, none⟩ (.int .i64 ((rd_T31 t129 x43_2).f0))).setCell ⟨gb139, 1, none⟩ (.int .i64 ((rd_T31 t129 x43_2).f1))).setCell ⟨gb139, 2, none⟩ (.int .u64 ((rd_T31 t129 x43_2).f2))).setCell ⟨gb139, 3, none⟩ (.int .i64 ((rd_T31 t129 x43_2).f3))).setCell ⟨gb139, 4, none⟩ (.string ((rd_T31 t129 x43_2).f4))) w.heap.size (fun k_ => k_ ≠ gb139) (.slice (some ad138) t129.length co29) t129) := ⟨by (with_reducible repeat (first | apply Kd.R_alloc | apply Kd.R_drewN | apply Kd.R_drew)); exact Kd.R_mono (Kd.R_far (p := ⟨gb139, 4, none⟩) (Kd.R_far (p := ⟨gb139, 3, none⟩) (Kd.R_far (p := ⟨gb139, 2, none⟩) (Kd.R_far (p := ⟨gb139, 1, none⟩) (Kd.R_far (p := ⟨gb139, 0, none⟩) (Kd.R_mono HO_41.out (fun k_ hk => (⟨hk, hk.2⟩ : _ ∧ k_ ≠ gb139))) (fun _ hk => hk.2) (.int .i64 ((rd_T31 t129 x43_2).f0))) (fun _ hk => hk.2) (.int .i64 ((rd_T31 t129 x43_2).f1))) (fun _ hk => hk.2) (.int .u64 ((rd_T31 t129 x43_2).f2))) (fun _ hk => hk.2) (.int .i64 ((rd_T31 t129 x43_2).f3))) (fun _ hk => hk.2) (.string ((rd_T31 t129 x43_2).f4))) (fun _ hk => hk.1.2)⟩
                              have n3_ : Aside0 ((((((w43.setCell ⟨gb139, 0, none⟩ (.int .i64 ((rd_T31 t129 x43_2).f0))).setCell ⟨gb139, 1, none⟩ (.int .i64 ((rd_T31 t129 x43_2).f1))).setCell ⟨gb139, 2, none⟩ (.int .u64 ((rd_T31 t129 x43_2).f2))).setCell ⟨gb139, 3, none⟩ (.int .i64 ((rd_T31 t129 x43_2).f3))).setCell ⟨gb139, 4, none⟩ (.string ((rd_T31 t129 x43_2).f4))).heap[gb139]? = some (.cells #[.int .i64 ((rd_T31 t129 x43_2).f0), .int .i64 ((rd_T31 t129 x43_2).f1), .int .u64 ((rd_T31 t129 x43_2).f2), .int .i64 ((rd_T31 t129 x43_2).f3), .string ((rd_T31 t129 x43_2).f4)] 31 (0, 0))) := ⟨by (with_reducible repeat (first | refine blk_drewN ?_ _ | refine blk_drew ?_ | refine blk_alloc ?_ _)); refine blk_put (cs := #[.int .i64 ((rd_T31 t129 x43_2).f0), .int .i64 ((rd_T31 t129 x43_2).f1), .int .u64 ((rd_T31 t129 x43_2).f2), .int .i64 ((rd_T31 t129 x43_2).f3), .string (⟨#[]⟩ : ByteArray)]) ?_ 4 _ rfl; (with_reducible repeat (first | refine blk_drewN ?_ _ | refine blk_drew ?_ | refine blk_alloc ?_ _)); refine blk_put (cs := #[.int .i64 ((rd_T31 t129 x43_2).f0), .int .i64 ((rd_T31 t129 x43_2).f1), .int .u64 ((rd_T31 t129 x43_2).f2), .int .i64 0, .string (⟨#[]⟩ : ByteArray)]) ?_ 3 _ rfl; (with_reducible repeat (first | refine blk_drewN ?_ _ | refine blk_drew ?_ | refine blk_alloc ?_ _)); refine blk_put (cs := #[.int .i64 ((rd_T31 t129 x43_2).f0), .int .i64 ((rd_T31 t129 x43_2).f1), .int .u64 0, .int .i64 0, .string (⟨#[]⟩ : ByteArray)]) ?_ 2 _ rfl; (with_reducible repeat (first | refine blk_drewN ?_ _ | refine blk_drew ?_ | refine blk_alloc ?_ _)); refine blk_put (cs := #[.int .i64 ((rd_T31 t129 x43_2).f0), .int .i64 0, .int .u64 0, .int .i64 0, .string (⟨#[]⟩ : ByteArray)]) ?_ 1 _ rfl; (with_reducible repeat (first | refine blk_drewN ?_ _ | refine blk_drew ?_ | refine blk_alloc ?_ _)); refine blk_put (cs := #[.int .i64 0, .int .i64 0, .int .u64 0, .int .i64 0, .string (⟨#[]⟩ : ByteArray)]) ?_ 0 _ rfl; (with_reducible repeat (first | refine blk_drewN ?_ _ | refine blk_drew ?_ | refine blk_alloc ?_ _)); exact BK139.out⟩
                              have n4_ : Aside0 (Below w.heap.size w (((((w43.setCell ⟨gb139, 0, none⟩ (.int .i64 ((rd_T31 t129 x43_2).f0))).setCell ⟨gb139, 1, none⟩ (.int .i64 ((rd_T31 t129 x43_2).f1))).setCell ⟨gb139, 2, none⟩ (.int .u64 ((rd_T31 t129 x43_2).f2))).setCell ⟨gb139, 3, none⟩ (.int .i64 ((rd_T31 t129 x43_2).f3))).setCell ⟨gb139, 4, none⟩ (.string ((rd_T31 t129 x43_2).f4)))) := ⟨by repeat (first | (with_reducible first | exact HB.out | apply below_alloc | apply pw_below_drewN | apply below_drew1 | refine below_set ?_ GE139.out) | exact HB.out)⟩
                              (try clear HO_5)
                              (try clear HO_6)
                              (try clear HO_41)
                              (try clear BK139)
                              (try clear HB)
                              generalize (((((w43.setCell ⟨gb139, 0, none⟩ (.int .i64 ((rd_T31 t129 x43_2).f0))).setCell ⟨gb139, 1, none⟩ (.int .i64 ((rd_T31 t129 x43_2).f1))).setCell ⟨gb139, 2, none⟩ (.int .u64 ((rd_T31 t129 x43_2).f2))).setCell ⟨gb139, 3, none⟩ (.int .i64 ((rd_T31 t129 x43_2).f3))).setCell ⟨gb139, 4, none⟩ (.string ((rd_T31 t129 x43_2).f4))) = w45 at n0_ n1_ n2_ n3_ n4_ ⊢
                              have HO_5 := n0_
                              have HO_6 := n1_
                              have HO_41 := n2_
                              have BK139 := n3_
                              have HB := n4_
                              clear n0_ n1_ n2_ n3_ n4_
                              have n0_ := Aside0.mk (Kd.R_drew HO_5.out)
                              have n1_ := Aside0.mk (Kd.R_drew HO_6.out)
                              have n2_ := Aside0.mk (Kd.R_drew HO_41.out)
                              have n3_ := Aside0.mk (blk_drew BK139.out)
                              have n4_ := Aside0.mk (below_drew1 HB.out)
                              clear HO_5
                              clear HO_6
                              clear HO_41
                              clear BK139
                              clear HB
                              have HO_5 := n0_
                              have HO_6 := n1_
                              have HO_41 := n2_
                              have BK139 := n3_
                              have HB := n4_
                              clear n0_ n1_ n2_ n3_ n4_
                              obtain ⟨Ao47, co47, eo47⟩ := Kd.R_slice HO_6.out
                              (first | subst eo47 | (injection eo47 with f1_ f2_ f3_; have f4_ := f1_.symm; have f5_ := f3_.symm; clear f1_ f2_ f3_; subst f4_; subst f5_))
                              have p145 : 0 ≤ (x43_2 : Int) := of_decide_eq_true (by first | (with_reducible assumption) | assumption)
                              have q145 : x43_2 < (t132.length : Int) := of_decide_eq_true (by first | (with_reducible assumption) | assumption)
                              obtain ⟨ad145, e145, hx145_0, hx145_1, hx145_2, hx145_3, hx145_4⟩ := at_T32 (Kd.R_reads' HO_6.out).2.2 x43_2 p145 q145
                              cases e145
                              replace p145 := eq_true p145
                              replace q145 := eq_true q145
                              have p150 : 0 ≤ (0 : Int) := (by omega)
                              have q150 : 0 < (t129.length : Int) := of_decide_eq_true (by first | (with_reducible assumption) | assumption)
                              obtain ⟨ad150, e150, hx150_0, hx150_1, hx150_2, hx150_3, hx150_4⟩ := at_T31 (Kd.R_reads' HO_5.out).2.2 0 p150 q150
                              obtain rfl : ad138 = ad150 := (by injection e150)
                              have qi150 : (0 < t129.length) = True := eq_true (by omega)
                              (try rw [show ((0 : Int)).toNat = 0 from rfl] at hx150_0)
                              (try rw [show 0 * 5 = 0 from rfl] at hx150_0)
                              (try rw [Addr.add_zero'] at hx150_0)
                              (try rw [show ((0 : Int)).toNat = 0 from rfl] at hx150_1)
                              (try rw [show 0 * 5 = 0 from rfl] at hx150_1)
                              (try rw [Addr.add_zero'] at hx150_1)
                              (try rw [show ((0 : Int)).toNat = 0 from rfl] at hx150_2)
                              (try rw [show 0 * 5 = 0 from rfl] at hx150_2)
                              (try rw [Addr.add_zero'] at hx150_2)
                              (try rw [show ((0 : Int)).toNat = 0 from rfl] at hx150_3)
                              (try rw [show 0 * 5 = 0 from rfl] at hx150_3)
                              (try rw [Addr.add_zero'] at hx150_3)
                              (try rw [show ((0 : Int)).toNat = 0 from rfl] at hx150_4)
                              (try rw [show 0 * 5 = 0 from rfl] at hx150_4)
                              (try rw [Addr.add_zero'] at hx150_4)
                              replace p150 := eq_true p150
                              replace q150 := eq_true q150
                              refine start_ (n := 21) (S := fun w' => w'.cell? ⟨gb139, 0, none⟩ = some (.int .i64 ((rd_T31 t129 x43_2).f0)) ∧ w'.cell? ⟨gb139, 1, none⟩ = some (.int .i64 ((rd_T31 t129 x43_2).f1)) ∧ w'.cell? ⟨gb139, 2, none⟩ = some (.int .u64 ((rd_T31 t129 x43_2).f2)) ∧ w'.cell? ⟨gb139, 3, none⟩ = some (.int .i64 ((rd_T31 t129 x43_2).f3)) ∧ w'.cell? ⟨gb139, 4, none⟩ = some (.string ((rd_T31 t129 x43_2).f4)) ∧ w'.cell? (ad145.add ((x43_2).toNat * 5)) = some (.int .i64 ((rd_T32 t132 x43_2).f0)) ∧ w'.cell? ⟨(ad145.add ((x43_2).toNat * 5)).block, (ad145.add ((x43_2).toNat * 5)).off + 1, none⟩ = some (.int .i64 ((rd_T32 t132 x43_2).f1)) ∧ w'.cell? ⟨(ad145.add ((x43_2).toNat * 5)).block, (ad145.add ((x43_2).toNat * 5)).off + 2, none⟩ = some (.int .u64 ((rd_T32 t132 x43_2).f2)) ∧ w'.cell? ⟨(ad145.add ((x43_2).toNat * 5)).block, (ad145.add ((x43_2).toNat * 5)).off + 3, none⟩ = some (.int .i64 ((rd_T32 t132 x43_2).f3)) ∧ w'.cell? ⟨(ad145.add ((x43_2).toNat * 5)).block, (ad145.add ((x43_2).toNat * 5)).off + 4, none⟩ = some (.string ((rd_T32 t132 x43_2).f4)) ∧ w'.cell? ad138 = some (.int .i64 ((rd_T31 t129 0).f0)) ∧ w'.cell? ⟨ad138.block, ad138.off + 1, none⟩ = some (.int .i64 ((rd_T31 t129 0).f1)) ∧ w'.cell? ⟨ad138.block, ad138.off + 2, none⟩ = some (.int .u64 ((rd_T31 t129 0).f2)) ∧ w'.cell? ⟨ad138.block, ad138.off + 3, none⟩ = some (.int .i64 ((rd_T31 t129 0).f3)) ∧ w'.cell? ⟨ad138.block, ad138.off + 4, none⟩ = some (.string ((rd_T31 t129 0).f4))) (ds := []) #[false, false, false, false, false, false, false, false, false, false, false, false, false, false, false, false, false, false, false, false, false] (by kernel_rfl) rfl rfl ⟨(blk_cell BK139.out 0).trans rfl, (blk_cell BK139.out 1).trans rfl, (blk_cell BK139.out 2).trans rfl, (blk_cell BK139.out 3).trans rfl, (blk_cell BK139.out 4).trans rfl, hx145_0, hx145_1, hx145_2, hx145_3, hx145_4, hx150_0, hx150_1, hx150_2, hx150_3, hx150_4⟩ (fun hHeld => ?_); refine with_tabW cotillionlaw11_ChunkSplits.tab11 cotillionlaw11_ChunkSplits.bits11 (fun HT_ HW_ => ?_)
                              generalize w45.drew = w46 at HO_5 HO_6 HO_41 BK139 HB hx145_0 hx145_1 hx145_2 hx145_3 hx145_4 hx150_0 hx150_1 hx150_2 hx150_3 hx150_4 hHeld ⊢
                              refine pure_ (i := 2) (N := some 54) (v := ?_) (a' := ?_) #[false, false, true, false, false, false, false, false, false, false, false, false, false, false, false, false, false, false, false, false, false] rfl rfl (any_of HT_.out (by kernel_rfl)) (fun _ _ _ h => h) (Or.inl ⟨by rfl, ?_⟩) ?_ ?_
                              rotate_left
                              · intro w'
                                go_simp
                                with_reducible rfl
                              rotate_left
                              · simp only [Act.put, List.setIfInBounds_toArray, List.set_cons_zero, List.set_cons_succ, i64_w, i32_w]
                                rfl
                              refine pure_ (i := 3) (N := some 55) (v := ?_) (a' := ?_) #[false, false, true, true, false, false, false, false, false, false, false, false, false, false, false, false, false, false, false, false, false] rfl rfl (any_of HT_.out (by kernel_rfl)) (fun _ _ _ h => h) (Or.inl ⟨by rfl, ?_⟩) ?_ ?_
                              rotate_left
                              · intro w'
                                go_simp
                                with_reducible rfl
                              rotate_left
                              · simp only [Act.put, List.setIfInBounds_toArray, List.set_cons_zero, List.set_cons_succ, i64_w, i32_w]
                                rfl
                              refine pure_ (i := 4) (N := some 56) (v := ?_) (a' := ?_) #[false, false, true, true, true, false, false, false, false, false, false, false, false, false, false, false, false, false, false, false, false] rfl rfl (any_of HT_.out (by kernel_rfl)) (fun _ _ _ h => h) (Or.inl ⟨by rfl, ?_⟩) ?_ ?_
                              rotate_left
                              · intro w'
                                go_simp
                                with_reducible rfl
                              rotate_left
                              · simp only [Act.put, List.setIfInBounds_toArray, List.set_cons_zero, List.set_cons_succ, i64_w, i32_w]
                                rfl
                              refine take_ (i := 0) (N := some 52) (v := ?_) (a' := ?_) #[true, false, true, true, true, false, false, false, false, false, false, false, false, false, false, false, false, false, false, false, false] rfl rfl (take_ofW HT_.out HW_.out (by kernel_rfl)) (fun _ _ _ h => h) (Or.inl ⟨by rfl, ?_⟩) hHeld ?_ ?_
                              rotate_left
                              · rintro w' ⟨s0, s1, s2, s3, s4, s5, s6, s7, s8, s9, s10, s11, s12, s13, s14⟩
                                go_simp
                                with_reducible rfl
                              rotate_left
                              · simp only [Act.put, List.setIfInBounds_toArray, List.set_cons_zero, List.set_cons_succ, i64_w, i32_w]
                                rfl
                              refine take_ (i := 5) (N := some 57) (v := ?_) (a' := ?_) #[true, false, true, true, true, true, false, false, false, false, false, false, false, false, false, false, false, false, false, false, false] rfl rfl (take_ofW HT_.out HW_.out (by kernel_rfl)) (fun _ _ _ h => h) (Or.inl ⟨by rfl, ?_⟩) hHeld ?_ ?_
                              rotate_left
                              · rintro w' ⟨s0, s1, s2, s3, s4, s5, s6, s7, s8, s9, s10, s11, s12, s13, s14⟩
                                go_simp
                                with_reducible rfl
                              rotate_left
                              · simp only [Act.put, List.setIfInBounds_toArray, List.set_cons_zero, List.set_cons_succ, i64_w, i32_w]
                                rfl
                              refine one_ (i := 1) (N := some 53) #[true, true, true, true, true, true, false, false, false, false, false, false, false, false, false, false, false, false, false, false, false] rfl rfl (one_of HT_.out (by kernel_rfl)) (by decide) (fun K hK => ?_)
                              refine goes_ Try.func14 (by kernel_rfl) rfl #[.agg #[.int .i64 ((rd_T31 t129 x43_2).f0), .int .i64 ((rd_T31 t129 x43_2).f1), .int .u64 ((rd_T31 t129 x43_2).f2), .int .i64 ((rd_T31 t129 x43_2).f3), .string ((rd_T31 t129 x43_2).f4)]] (by rfl) rfl rfl (by (try simp only [List.map_toArray, List.map_cons, List.map_nil]); first | done | rfl | (simp only [List.length_drop, List.length_take]; rfl)) ?_
                              with_reducible refine (cotillionlaw11_Told.calls ((rd_T31 t129 x43_2).f0) ((rd_T31 t129 x43_2).f1) ((rd_T31 t129 x43_2).f2) ((rd_T31 t129 x43_2).f3) ((rd_T31 t129 x43_2).f4) t140 t141 t142 t143 t144 _ A34.out).mono ?_
                              rintro e w48 ⟨rfl, hb⟩
                              have HS5_ := (hb.cell (World.block_lt_of_cell? _ _ (hHeld.2.2.2.2.2.1))).trans (hHeld.2.2.2.2.2.1)
                              have HS6_ := (hb.cell (World.block_lt_of_cell? _ _ (hHeld.2.2.2.2.2.2.1))).trans (hHeld.2.2.2.2.2.2.1)
                              have HS7_ := (hb.cell (World.block_lt_of_cell? _ _ (hHeld.2.2.2.2.2.2.2.1))).trans (hHeld.2.2.2.2.2.2.2.1)
                              have HS8_ := (hb.cell (World.block_lt_of_cell? _ _ (hHeld.2.2.2.2.2.2.2.2.1))).trans (hHeld.2.2.2.2.2.2.2.2.1)
                              have HS9_ := (hb.cell (World.block_lt_of_cell? _ _ (hHeld.2.2.2.2.2.2.2.2.2.1))).trans (hHeld.2.2.2.2.2.2.2.2.2.1)
                              have HS10_ := (hb.cell (World.block_lt_of_cell? _ _ (hHeld.2.2.2.2.2.2.2.2.2.2.1))).trans (hHeld.2.2.2.2.2.2.2.2.2.2.1)
                              have HS11_ := (hb.cell (World.block_lt_of_cell? _ _ (hHeld.2.2.2.2.2.2.2.2.2.2.2.1))).trans (hHeld.2.2.2.2.2.2.2.2.2.2.2.1)
                              have HS12_ := (hb.cell (World.block_lt_of_cell? _ _ (hHeld.2.2.2.2.2.2.2.2.2.2.2.2.1))).trans (hHeld.2.2.2.2.2.2.2.2.2.2.2.2.1)
                              have HS13_ := (hb.cell (World.block_lt_of_cell? _ _ (hHeld.2.2.2.2.2.2.2.2.2.2.2.2.2.1))).trans (hHeld.2.2.2.2.2.2.2.2.2.2.2.2.2.1)
                              have HS14_ := (hb.cell (World.block_lt_of_cell? _ _ (hHeld.2.2.2.2.2.2.2.2.2.2.2.2.2.2))).trans (hHeld.2.2.2.2.2.2.2.2.2.2.2.2.2.2)
                              refine ⟨_, rfl, ?_⟩
                              have n0_ := Aside0.mk (Kd.R_below (by (with_reducible repeat (first | apply Kd.R_alloc | apply Kd.R_drewN | apply Kd.R_drew)); exact HO_5.out) hb)
                              have n1_ := Aside0.mk (Kd.R_below (by (with_reducible repeat (first | apply Kd.R_alloc | apply Kd.R_drewN | apply Kd.R_drew)); exact HO_6.out) hb)
                              have n2_ := Aside0.mk (Kd.R_below (by (with_reducible repeat (first | apply Kd.R_alloc | apply Kd.R_drewN | apply Kd.R_drew)); exact HO_41.out) hb)
                              have n3_ := Aside0.mk (blk_below (g := gb139) (o := .cells #[.int .i64 ((rd_T31 t129 x43_2).f0), .int .i64 ((rd_T31 t129 x43_2).f1), .int .u64 ((rd_T31 t129 x43_2).f2), .int .i64 ((rd_T31 t129 x43_2).f3), .string ((rd_T31 t129 x43_2).f4)] 31 (0, 0)) (by (with_reducible repeat (first | refine blk_drewN ?_ _ | refine blk_drew ?_ | refine blk_alloc ?_ _)); exact BK139.out) hb)
                              have n4_ := Aside0.mk (below_step (by repeat (first | (with_reducible first | exact HB.out | apply below_alloc | apply pw_below_drewN | apply below_drew1 | refine below_set ?_ GE139.out) | exact HB.out)) hb)
                              clear HO_5
                              clear HO_6
                              clear HO_41
                              clear BK139
                              clear HB
                              have HO_5 := n0_
                              have HO_6 := n1_
                              have HO_41 := n2_
                              have BK139 := n3_
                              have HB := n4_
                              clear n0_ n1_ n2_ n3_ n4_
                              (try clear hb)
                              (try clear hb2)
                              (try clear hk)
                              (try clear hi)
                              refine hK.out _ _ ⟨(blk_cell BK139.out 0).trans rfl, (blk_cell BK139.out 1).trans rfl, (blk_cell BK139.out 2).trans rfl, (blk_cell BK139.out 3).trans rfl, (blk_cell BK139.out 4).trans rfl, HS5_, HS6_, HS7_, HS8_, HS9_, HS10_, HS11_, HS12_, HS13_, HS14_⟩ (fun hHeld => ?_)
                              clear hK K
                              refine norm_ (a' := ?_) ?_ ?_
                              rotate_left
                              · show Act.put _ (some 53) _ = _
                                simp only [Act.put, List.setIfInBounds_toArray, List.set_cons_zero, List.set_cons_succ, i64_w, i32_w]
                                rfl
                              refine pure_ (i := 6) (N := some 58) (v := ?_) (a' := ?_) #[true, true, true, true, true, true, true, false, false, false, false, false, false, false, false, false, false, false, false, false, false] rfl rfl (any_of HT_.out (by kernel_rfl)) (fun _ _ _ h => h) (Or.inl ⟨by rfl, ?_⟩) ?_ ?_
                              rotate_left
                              · intro w'
                                go_simp
                                with_reducible rfl
                              rotate_left
                              · simp only [Act.put, List.setIfInBounds_toArray, List.set_cons_zero, List.set_cons_succ, i64_w, i32_w]
                                rfl
                              refine pure_ (i := 7) (N := some 59) (v := ?_) (a' := ?_) #[true, true, true, true, true, true, true, true, false, false, false, false, false, false, false, false, false, false, false, false, false] rfl rfl (any_of HT_.out (by kernel_rfl)) (fun _ _ _ h => h) (Or.inl ⟨by rfl, ?_⟩) ?_ ?_
                              rotate_left
                              · intro w'
                                go_simp
                                with_reducible rfl
                              rotate_left
                              · simp only [Act.put, List.setIfInBounds_toArray, List.set_cons_zero, List.set_cons_succ, i64_w, i32_w]
                                rfl
                              refine take_ (i := 8) (N := some 60) (v := ?_) (a' := ?_) #[true, true, true, true, true, true, true, true, true, false, false, false, false, false, false, false, false, false, false, false, false] rfl rfl (take_ofW HT_.out HW_.out (by kernel_rfl)) (fun _ _ _ h => h) (Or.inl ⟨by rfl, ?_⟩) hHeld ?_ ?_
                              rotate_left
                              · rintro w' ⟨s0, s1, s2, s3, s4, s5, s6, s7, s8, s9, s10, s11, s12, s13, s14⟩
                                go_simp
                                with_reducible rfl
                              rotate_left
                              · simp only [Act.put, List.setIfInBounds_toArray, List.set_cons_zero, List.set_cons_succ, i64_w, i32_w]
                                rfl
                              refine one_ (i := 9) (N := some 61) #[true, true, true, true, true, true, true, true, true, true, false, false, false, false, false, false, false, false, false, false, false] rfl rfl (one_of HT_.out (by kernel_rfl)) (by decide) (fun K hK => ?_)
                              refine goes_ Try.func15 (by kernel_rfl) rfl #[.agg #[.int .i64 ((rd_T31 t129 x43_2).f0), .int .i64 ((rd_T31 t129 x43_2).f1), .int .u64 ((rd_T31 t129 x43_2).f2), .int .i64 ((rd_T31 t129 x43_2).f3), .string ((rd_T31 t129 x43_2).f4)]] (by rfl) rfl rfl (by (try simp only [List.map_toArray, List.map_cons, List.map_nil]); first | done | rfl | (simp only [List.length_drop, List.length_take]; rfl)) ?_
                              with_reducible refine (chunk_Piece_Check.calls k2 ((rd_T31 t129 x43_2).f0) ((rd_T31 t129 x43_2).f1) ((rd_T31 t129 x43_2).f2) ((rd_T31 t129 x43_2).f3) ((rd_T31 t129 x43_2).f4) t146 _ A37.out).mono ?_
                              rintro e w49 ⟨rfl, hb⟩
                              have HS5_ := (hb.cell (World.block_lt_of_cell? _ _ (hHeld.2.2.2.2.2.1))).trans (hHeld.2.2.2.2.2.1)
                              have HS6_ := (hb.cell (World.block_lt_of_cell? _ _ (hHeld.2.2.2.2.2.2.1))).trans (hHeld.2.2.2.2.2.2.1)
                              have HS7_ := (hb.cell (World.block_lt_of_cell? _ _ (hHeld.2.2.2.2.2.2.2.1))).trans (hHeld.2.2.2.2.2.2.2.1)
                              have HS8_ := (hb.cell (World.block_lt_of_cell? _ _ (hHeld.2.2.2.2.2.2.2.2.1))).trans (hHeld.2.2.2.2.2.2.2.2.1)
                              have HS9_ := (hb.cell (World.block_lt_of_cell? _ _ (hHeld.2.2.2.2.2.2.2.2.2.1))).trans (hHeld.2.2.2.2.2.2.2.2.2.1)
                              have HS10_ := (hb.cell (World.block_lt_of_cell? _ _ (hHeld.2.2.2.2.2.2.2.2.2.2.1))).trans (hHeld.2.2.2.2.2.2.2.2.2.2.1)
                              have HS11_ := (hb.cell (World.block_lt_of_cell? _ _ (hHeld.2.2.2.2.2.2.2.2.2.2.2.1))).trans (hHeld.2.2.2.2.2.2.2.2.2.2.2.1)
                              have HS12_ := (hb.cell (World.block_lt_of_cell? _ _ (hHeld.2.2.2.2.2.2.2.2.2.2.2.2.1))).trans (hHeld.2.2.2.2.2.2.2.2.2.2.2.2.1)
                              have HS13_ := (hb.cell (World.block_lt_of_cell? _ _ (hHeld.2.2.2.2.2.2.2.2.2.2.2.2.2.1))).trans (hHeld.2.2.2.2.2.2.2.2.2.2.2.2.2.1)
                              have HS14_ := (hb.cell (World.block_lt_of_cell? _ _ (hHeld.2.2.2.2.2.2.2.2.2.2.2.2.2.2))).trans (hHeld.2.2.2.2.2.2.2.2.2.2.2.2.2.2)
                              refine ⟨_, rfl, ?_⟩
                              have n0_ := Aside0.mk (Kd.R_below (by (with_reducible repeat (first | apply Kd.R_alloc | apply Kd.R_drewN | apply Kd.R_drew)); exact HO_5.out) hb)
                              have n1_ := Aside0.mk (Kd.R_below (by (with_reducible repeat (first | apply Kd.R_alloc | apply Kd.R_drewN | apply Kd.R_drew)); exact HO_6.out) hb)
                              have n2_ := Aside0.mk (Kd.R_below (by (with_reducible repeat (first | apply Kd.R_alloc | apply Kd.R_drewN | apply Kd.R_drew)); exact HO_41.out) hb)
                              have n3_ := Aside0.mk (blk_below (g := gb139) (o := .cells #[.int .i64 ((rd_T31 t129 x43_2).f0), .int .i64 ((rd_T31 t129 x43_2).f1), .int .u64 ((rd_T31 t129 x43_2).f2), .int .i64 ((rd_T31 t129 x43_2).f3), .string ((rd_T31 t129 x43_2).f4)] 31 (0, 0)) (by (with_reducible repeat (first | refine blk_drewN ?_ _ | refine blk_drew ?_ | refine blk_alloc ?_ _)); exact BK139.out) hb)
                              have n4_ := Aside0.mk (below_step (by repeat (first | (with_reducible first | exact HB.out | apply below_alloc | apply pw_below_drewN | apply below_drew1 | refine below_set ?_ GE139.out) | exact HB.out)) hb)
                              clear HO_5
                              clear HO_6
                              clear HO_41
                              clear BK139
                              clear HB
                              have HO_5 := n0_
                              have HO_6 := n1_
                              have HO_41 := n2_
                              have BK139 := n3_
                              have HB := n4_
                              clear n0_ n1_ n2_ n3_ n4_
                              (try clear hb)
                              (try clear hb2)
                              (try clear hk)
                              (try clear hi)
                              refine hK.out _ _ ⟨(blk_cell BK139.out 0).trans rfl, (blk_cell BK139.out 1).trans rfl, (blk_cell BK139.out 2).trans rfl, (blk_cell BK139.out 3).trans rfl, (blk_cell BK139.out 4).trans rfl, HS5_, HS6_, HS7_, HS8_, HS9_, HS10_, HS11_, HS12_, HS13_, HS14_⟩ (fun hHeld => ?_)
                              clear hK K
                              refine norm_ (a' := ?_) ?_ ?_
                              rotate_left
                              · show Act.put _ (some 61) _ = _
                                simp only [Act.put, List.setIfInBounds_toArray, List.set_cons_zero, List.set_cons_succ, i64_w, i32_w]
                                rfl
                              refine pure_ (i := 10) (N := some 62) (v := ?_) (a' := ?_) #[true, true, true, true, true, true, true, true, true, true, true, false, false, false, false, false, false, false, false, false, false] rfl rfl (any_of HT_.out (by kernel_rfl)) (fun _ _ _ h => h) (Or.inl ⟨by rfl, ?_⟩) ?_ ?_
                              rotate_left
                              · intro w'
                                go_simp
                                with_reducible rfl
                              rotate_left
                              · simp only [Act.put, List.setIfInBounds_toArray, List.set_cons_zero, List.set_cons_succ, i64_w, i32_w]
                                rfl
                              refine pure_ (i := 11) (N := some 63) (v := ?_) (a' := ?_) #[true, true, true, true, true, true, true, true, true, true, true, true, false, false, false, false, false, false, false, false, false] rfl rfl (any_of HT_.out (by kernel_rfl)) (fun _ _ _ h => h) (Or.inl ⟨by rfl, ?_⟩) ?_ ?_
                              rotate_left
                              · intro w'
                                go_simp
                                with_reducible rfl
                              rotate_left
                              · simp only [Act.put, List.setIfInBounds_toArray, List.set_cons_zero, List.set_cons_succ, i64_w, i32_w]
                                rfl
                              refine pure_ (i := 12) (N := some 64) (v := ?_) (a' := ?_) #[true, true, true, true, true, true, true, true, true, true, true, true, true, false, false, false, false, false, false, false, false] rfl rfl (any_of HT_.out (by kernel_rfl)) (fun _ _ _ h => h) (Or.inl ⟨by rfl, ?_⟩) ?_ ?_
                              rotate_left
                              · intro w'
                                go_simp
                                with_reducible rfl
                              rotate_left
                              · simp only [Act.put, List.setIfInBounds_toArray, List.set_cons_zero, List.set_cons_succ, i64_w, i32_w]
                                rfl
                              refine pure_ (i := 15) (N := some 67) (v := ?_) (a' := ?_) #[true, true, true, true, true, true, true, true, true, true, true, true, true, false, false, true, false, false, false, false, false] rfl rfl (any_of HT_.out (by kernel_rfl)) (fun _ _ _ h => h) (Or.inl ⟨by rfl, ?_⟩) ?_ ?_
                              rotate_left
                              · intro w'
                                go_simp
                                with_reducible rfl
                              rotate_left
                              · simp only [Act.put, List.setIfInBounds_toArray, List.set_cons_zero, List.set_cons_succ, i64_w, i32_w]
                                rfl
                              refine pure_ (i := 16) (N := some 68) (v := ?_) (a' := ?_) #[true, true, true, true, true, true, true, true, true, true, true, true, true, false, false, true, true, false, false, false, false] rfl rfl (any_of HT_.out (by kernel_rfl)) (fun _ _ _ h => h) (Or.inl ⟨by rfl, ?_⟩) ?_ ?_
                              rotate_left
                              · intro w'
                                go_simp
                                with_reducible rfl
                              rotate_left
                              · simp only [Act.put, List.setIfInBounds_toArray, List.set_cons_zero, List.set_cons_succ, i64_w, i32_w]
                                rfl
                              refine take_ (i := 13) (N := some 65) (v := ?_) (a' := ?_) #[true, true, true, true, true, true, true, true, true, true, true, true, true, true, false, true, true, false, false, false, false] rfl rfl (take_ofW HT_.out HW_.out (by kernel_rfl)) (fun _ _ _ h => h) (Or.inl ⟨by rfl, ?_⟩) hHeld ?_ ?_
                              rotate_left
                              · rintro w' ⟨s0, s1, s2, s3, s4, s5, s6, s7, s8, s9, s10, s11, s12, s13, s14⟩
                                go_simp
                                with_reducible rfl
                              rotate_left
                              · simp only [Act.put, List.setIfInBounds_toArray, List.set_cons_zero, List.set_cons_succ, i64_w, i32_w]
                                rfl
                              refine take_ (i := 17) (N := some 69) (v := ?_) (a' := ?_) #[true, true, true, true, true, true, true, true, true, true, true, true, true, true, false, true, true, true, false, false, false] rfl rfl (take_ofW HT_.out HW_.out (by kernel_rfl)) (fun _ _ _ h => h) (Or.inl ⟨by rfl, ?_⟩) hHeld ?_ ?_
                              rotate_left
                              · rintro w' ⟨s0, s1, s2, s3, s4, s5, s6, s7, s8, s9, s10, s11, s12, s13, s14⟩
                                go_simp
                                with_reducible rfl
                              rotate_left
                              · simp only [Act.put, List.setIfInBounds_toArray, List.set_cons_zero, List.set_cons_succ, i64_w, i32_w]
                                rfl
                              refine one_ (i := 14) (N := some 66) #[true, true, true, true, true, true, true, true, true, true, true, true, true, true, true, true, true, true, false, false, false] rfl rfl (one_of HT_.out (by kernel_rfl)) (by decide) (fun K hK => ?_)
                              refine goes_ Try.func16 (by kernel_rfl) rfl #[.agg #[.int .i64 ((rd_T31 t129 x43_2).f0), .int .i64 ((rd_T31 t129 x43_2).f1), .int .u64 ((rd_T31 t129 x43_2).f2), .int .i64 ((rd_T31 t129 x43_2).f3), .string ((rd_T31 t129 x43_2).f4)]] (by rfl) rfl rfl (by (try simp only [List.map_toArray, List.map_cons, List.map_nil]); first | done | rfl | (simp only [List.length_drop, List.length_take]; rfl)) ?_
                              with_reducible refine (chunk_Piece_Head.calls ((rd_T31 t129 x43_2).f0) ((rd_T31 t129 x43_2).f1) ((rd_T31 t129 x43_2).f2) ((rd_T31 t129 x43_2).f3) ((rd_T31 t129 x43_2).f4) t147 t148 t149 _ A39.out).mono ?_
                              rintro e w50 ⟨rfl, hb⟩
                              have HS5_ := (hb.cell (World.block_lt_of_cell? _ _ (hHeld.2.2.2.2.2.1))).trans (hHeld.2.2.2.2.2.1)
                              have HS6_ := (hb.cell (World.block_lt_of_cell? _ _ (hHeld.2.2.2.2.2.2.1))).trans (hHeld.2.2.2.2.2.2.1)
                              have HS7_ := (hb.cell (World.block_lt_of_cell? _ _ (hHeld.2.2.2.2.2.2.2.1))).trans (hHeld.2.2.2.2.2.2.2.1)
                              have HS8_ := (hb.cell (World.block_lt_of_cell? _ _ (hHeld.2.2.2.2.2.2.2.2.1))).trans (hHeld.2.2.2.2.2.2.2.2.1)
                              have HS9_ := (hb.cell (World.block_lt_of_cell? _ _ (hHeld.2.2.2.2.2.2.2.2.2.1))).trans (hHeld.2.2.2.2.2.2.2.2.2.1)
                              have HS10_ := (hb.cell (World.block_lt_of_cell? _ _ (hHeld.2.2.2.2.2.2.2.2.2.2.1))).trans (hHeld.2.2.2.2.2.2.2.2.2.2.1)
                              have HS11_ := (hb.cell (World.block_lt_of_cell? _ _ (hHeld.2.2.2.2.2.2.2.2.2.2.2.1))).trans (hHeld.2.2.2.2.2.2.2.2.2.2.2.1)
                              have HS12_ := (hb.cell (World.block_lt_of_cell? _ _ (hHeld.2.2.2.2.2.2.2.2.2.2.2.2.1))).trans (hHeld.2.2.2.2.2.2.2.2.2.2.2.2.1)
                              have HS13_ := (hb.cell (World.block_lt_of_cell? _ _ (hHeld.2.2.2.2.2.2.2.2.2.2.2.2.2.1))).trans (hHeld.2.2.2.2.2.2.2.2.2.2.2.2.2.1)
                              have HS14_ := (hb.cell (World.block_lt_of_cell? _ _ (hHeld.2.2.2.2.2.2.2.2.2.2.2.2.2.2))).trans (hHeld.2.2.2.2.2.2.2.2.2.2.2.2.2.2)
                              refine ⟨_, rfl, ?_⟩
                              have n0_ := Aside0.mk (Kd.R_below (by (with_reducible repeat (first | apply Kd.R_alloc | apply Kd.R_drewN | apply Kd.R_drew)); exact HO_5.out) hb)
                              have n1_ := Aside0.mk (Kd.R_below (by (with_reducible repeat (first | apply Kd.R_alloc | apply Kd.R_drewN | apply Kd.R_drew)); exact HO_6.out) hb)
                              have n2_ := Aside0.mk (Kd.R_below (by (with_reducible repeat (first | apply Kd.R_alloc | apply Kd.R_drewN | apply Kd.R_drew)); exact HO_41.out) hb)
                              have n3_ := Aside0.mk (blk_below (g := gb139) (o := .cells #[.int .i64 ((rd_T31 t129 x43_2).f0), .int .i64 ((rd_T31 t129 x43_2).f1), .int .u64 ((rd_T31 t129 x43_2).f2), .int .i64 ((rd_T31 t129 x43_2).f3), .string ((rd_T31 t129 x43_2).f4)] 31 (0, 0)) (by (with_reducible repeat (first | refine blk_drewN ?_ _ | refine blk_drew ?_ | refine blk_alloc ?_ _)); exact BK139.out) hb)
                              have n4_ := Aside0.mk (below_step (by repeat (first | (with_reducible first | exact HB.out | apply below_alloc | apply pw_below_drewN | apply below_drew1 | refine below_set ?_ GE139.out) | exact HB.out)) hb)
                              clear HO_5
                              clear HO_6
                              clear HO_41
                              clear BK139
                              clear HB
                              have HO_5 := n0_
                              have HO_6 := n1_
                              have HO_41 := n2_
                              have BK139 := n3_
                              have HB := n4_
                              clear n0_ n1_ n2_ n3_ n4_
                              (try clear hb)
                              (try clear hb2)
                              (try clear hk)
                              (try clear hi)
                              refine hK.out _ _ ⟨(blk_cell BK139.out 0).trans rfl, (blk_cell BK139.out 1).trans rfl, (blk_cell BK139.out 2).trans rfl, (blk_cell BK139.out 3).trans rfl, (blk_cell BK139.out 4).trans rfl, HS5_, HS6_, HS7_, HS8_, HS9_, HS10_, HS11_, HS12_, HS13_, HS14_⟩ (fun hHeld => ?_)
                              clear hK K
                              refine norm_ (a' := ?_) ?_ ?_
                              rotate_left
                              · show Act.put _ (some 66) _ = _
                                simp only [Act.put, List.setIfInBounds_toArray, List.set_cons_zero, List.set_cons_succ, i64_w, i32_w]
                                rfl
                              refine one_ (i := 18) (N := some 70) #[true, true, true, true, true, true, true, true, true, true, true, true, true, true, true, true, true, true, true, false, false] rfl rfl (one_of HT_.out (by kernel_rfl)) (by decide) (fun K hK => ?_)
                              refine goes_ Try.func16 (by kernel_rfl) rfl #[.agg #[.int .i64 ((rd_T31 t129 0).f0), .int .i64 ((rd_T31 t129 0).f1), .int .u64 ((rd_T31 t129 0).f2), .int .i64 ((rd_T31 t129 0).f3), .string ((rd_T31 t129 0).f4)]] (by rfl) rfl rfl (by (try simp only [List.map_toArray, List.map_cons, List.map_nil]); first | done | rfl | (simp only [List.length_drop, List.length_take]; rfl)) ?_
                              with_reducible refine (chunk_Piece_Head.calls ((rd_T31 t129 0).f0) ((rd_T31 t129 0).f1) ((rd_T31 t129 0).f2) ((rd_T31 t129 0).f3) ((rd_T31 t129 0).f4) t151 t152 t153 _ A41.out).mono ?_
                              rintro e w51 ⟨rfl, hb⟩
                              have HS5_ := (hb.cell (World.block_lt_of_cell? _ _ (hHeld.2.2.2.2.2.1))).trans (hHeld.2.2.2.2.2.1)
                              have HS6_ := (hb.cell (World.block_lt_of_cell? _ _ (hHeld.2.2.2.2.2.2.1))).trans (hHeld.2.2.2.2.2.2.1)
                              have HS7_ := (hb.cell (World.block_lt_of_cell? _ _ (hHeld.2.2.2.2.2.2.2.1))).trans (hHeld.2.2.2.2.2.2.2.1)
                              have HS8_ := (hb.cell (World.block_lt_of_cell? _ _ (hHeld.2.2.2.2.2.2.2.2.1))).trans (hHeld.2.2.2.2.2.2.2.2.1)
                              have HS9_ := (hb.cell (World.block_lt_of_cell? _ _ (hHeld.2.2.2.2.2.2.2.2.2.1))).trans (hHeld.2.2.2.2.2.2.2.2.2.1)
                              have HS10_ := (hb.cell (World.block_lt_of_cell? _ _ (hHeld.2.2.2.2.2.2.2.2.2.2.1))).trans (hHeld.2.2.2.2.2.2.2.2.2.2.1)
                              have HS11_ := (hb.cell (World.block_lt_of_cell? _ _ (hHeld.2.2.2.2.2.2.2.2.2.2.2.1))).trans (hHeld.2.2.2.2.2.2.2.2.2.2.2.1)
                              have HS12_ := (hb.cell (World.block_lt_of_cell? _ _ (hHeld.2.2.2.2.2.2.2.2.2.2.2.2.1))).trans (hHeld.2.2.2.2.2.2.2.2.2.2.2.2.1)
                              have HS13_ := (hb.cell (World.block_lt_of_cell? _ _ (hHeld.2.2.2.2.2.2.2.2.2.2.2.2.2.1))).trans (hHeld.2.2.2.2.2.2.2.2.2.2.2.2.2.1)
                              have HS14_ := (hb.cell (World.block_lt_of_cell? _ _ (hHeld.2.2.2.2.2.2.2.2.2.2.2.2.2.2))).trans (hHeld.2.2.2.2.2.2.2.2.2.2.2.2.2.2)
                              refine ⟨_, rfl, ?_⟩
                              have n0_ := Aside0.mk (Kd.R_below (by (with_reducible repeat (first | apply Kd.R_alloc | apply Kd.R_drewN | apply Kd.R_drew)); exact HO_5.out) hb)
                              have n1_ := Aside0.mk (Kd.R_below (by (with_reducible repeat (first | apply Kd.R_alloc | apply Kd.R_drewN | apply Kd.R_drew)); exact HO_6.out) hb)
                              have n2_ := Aside0.mk (Kd.R_below (by (with_reducible repeat (first | apply Kd.R_alloc | apply Kd.R_drewN | apply Kd.R_drew)); exact HO_41.out) hb)
                              have n3_ := Aside0.mk (blk_below (g := gb139) (o := .cells #[.int .i64 ((rd_T31 t129 x43_2).f0), .int .i64 ((rd_T31 t129 x43_2).f1), .int .u64 ((rd_T31 t129 x43_2).f2), .int .i64 ((rd_T31 t129 x43_2).f3), .string ((rd_T31 t129 x43_2).f4)] 31 (0, 0)) (by (with_reducible repeat (first | refine blk_drewN ?_ _ | refine blk_drew ?_ | refine blk_alloc ?_ _)); exact BK139.out) hb)
                              have n4_ := Aside0.mk (below_step (by repeat (first | (with_reducible first | exact HB.out | apply below_alloc | apply pw_below_drewN | apply below_drew1 | refine below_set ?_ GE139.out) | exact HB.out)) hb)
                              clear HO_5
                              clear HO_6
                              clear HO_41
                              clear BK139
                              clear HB
                              have HO_5 := n0_
                              have HO_6 := n1_
                              have HO_41 := n2_
                              have BK139 := n3_
                              have HB := n4_
                              clear n0_ n1_ n2_ n3_ n4_
                              (try clear hb)
                              (try clear hb2)
                              (try clear hk)
                              (try clear hi)
                              refine hK.out _ _ ⟨(blk_cell BK139.out 0).trans rfl, (blk_cell BK139.out 1).trans rfl, (blk_cell BK139.out 2).trans rfl, (blk_cell BK139.out 3).trans rfl, (blk_cell BK139.out 4).trans rfl, HS5_, HS6_, HS7_, HS8_, HS9_, HS10_, HS11_, HS12_, HS13_, HS14_⟩ (fun hHeld => ?_)
                              clear hK K
                              refine norm_ (a' := ?_) ?_ ?_
                              rotate_left
                              · show Act.put _ (some 70) _ = _
                                simp only [Act.put, List.setIfInBounds_toArray, List.set_cons_zero, List.set_cons_succ, i64_w, i32_w]
                                rfl
                              refine pure_ (i := 19) (N := some 71) (v := ?_) (a' := ?_) #[true, true, true, true, true, true, true, true, true, true, true, true, true, true, true, true, true, true, true, true, false] rfl rfl (any_of HT_.out (by kernel_rfl)) (fun _ _ _ h => h) (Or.inl ⟨by rfl, ?_⟩) ?_ ?_
                              rotate_left
                              · intro w'
                                go_simp
                                with_reducible rfl
                              rotate_left
                              · simp only [Act.put, List.setIfInBounds_toArray, List.set_cons_zero, List.set_cons_succ, i64_w, i32_w]
                                rfl
                              refine pure_ (i := 20) (N := some 72) (v := ?_) (a' := ?_) #[true, true, true, true, true, true, true, true, true, true, true, true, true, true, true, true, true, true, true, true, true] rfl rfl (any_of HT_.out (by kernel_rfl)) (fun _ _ _ h => h) (Or.inl ⟨by rfl, ?_⟩) ?_ ?_
                              rotate_left
                              · intro w'
                                go_simp
                                with_reducible rfl
                              rotate_left
                              · simp only [Act.put, List.setIfInBounds_toArray, List.set_cons_zero, List.set_cons_succ, i64_w, i32_w]
                                rfl
                              refine done_ (done_of HT_.out (by kernel_rfl)) ?_
                              try go_wp2
                              go_roundg k2
                              case measure => have := HJ5.out; have := HK2.out; omega
                              case rel => exact ⟨(x7_2 ++ ((rd_T31 t129 x43_2).f4)), (wrap64 (x43_2 + 1)), (by first | rfl | (simp; done) | (simp [*]; done)), (by first | rfl | (simp; done) | (simp [*]; done)), H', ⟨by have := HJ5.out; have := HK2.out; omega⟩, ⟨by (with_reducible repeat (first | apply Kd.R_alloc | apply Kd.R_drewN | apply Kd.R_drew)); exact Kd.R_mono HO_5.out (fun _ hk => trivial)⟩, ⟨by (with_reducible repeat (first | apply Kd.R_alloc | apply Kd.R_drewN | apply Kd.R_drew)); exact HO_6.out⟩, ⟨by (with_reducible repeat (first | apply Kd.R_alloc | apply Kd.R_drewN | apply Kd.R_drew)); exact Kd.R_mono HO_41.out (fun _ hk => trivial)⟩, ⟨by repeat (first | (with_reducible first | exact HB.out | apply below_alloc | apply pw_below_drewN | apply below_drew1 | refine below_set ?_ GE139.out) | exact HB.out)⟩⟩
                          · rw [if_neg c40] at H
                            exact absurd H (by simp)
                        · rw [if_neg c38] at H
                          have c38b0 : (t146 == 0) = false := beq_eq_false_iff_ne.mpr c38
                          have c38b1 : (t146 != 0) = true := bne_iff_ne.mpr c38
                          obtain rfl := Option.some.inj H
                          exact absurd ht_ (by decide)
                    · rw [if_neg c35] at H
                      exact absurd H (by simp)
                  · rw [if_neg c33] at H
                    exact absurd H (by simp)
                · rw [if_neg c32] at H
                  exact absurd H (by simp)
              · rw [if_neg c31] at H
                exact absurd H (by simp)
            · rw [if_neg c30] at H
              have c30b0 : decide (x43_2 < (t129.length : Int)) = false := decide_eq_false c30
              clear c30
              obtain rfl := Option.some.inj H
              clear ht_
              go_wp2
              go_ret
              exact ⟨by first | rfl | (simp [errW_none, errW_some] <;> rfl) | (simp [*, errW_none, errW_some] <;> rfl), by repeat (first | (with_reducible first | exact HB.out | apply below_alloc | apply pw_below_drewN | apply below_drew1) | exact HB.out)⟩

/-- THE ONE PURE STATEMENT of cotillionlaw11_ChunkSplits: yours. -/
def cotillionlaw11_ChunkSplits.Pure : Prop := ∀ (a0 : ByteArray) (a1 : Int), a0.size ≤ 140737488351232 → (Lit.int .i64 a1).wf = true → ∃ k, cotillionlaw11_ChunkSplits.f k a0 a1 = some true
theorem cotillionlaw11_ChunkSplits.walk (P : cotillionlaw11_ChunkSplits.Pure) (a0 : ByteArray) (a1 : Int) (w : World) (w0 : a0.size ≤ 140737488351232) (w1 : (Lit.int .i64 a1).wf = true) :
    Calls Try.prog 3 #[.string a0, .int .i64 a1] w fun e w' => e = .returned (.bool true) ∧ Below w.heap.size w w' := by
  obtain ⟨k, h⟩ := P a0 a1 w0 w1
  refine (cotillionlaw11_ChunkSplits.calls k a0 a1 true w h rfl).mono ?_
  rintro e w' ⟨rfl, hd⟩
  exact ⟨rfl, hd⟩

end Go.Proofs.Ytekmhdiajjfgfaa.QChunkSplits
