/- The law's awake: it always says yes. -/
import Derived.Test.YtekmhdiajjfgfaaGPut
import Derived.Test.YtekmhdiajjfgfaaSplit
import Derived.Lib.ConvBytes
import Derived.Laws.MakeOwn
namespace Go.Proofs.Ytekmhdiajjfgfaa.QChunkSplits
open Go.Proofs.Ytekmhdiajjfgfaa Go.RowKit Go.Proofs.YtekmhdiajjfgfaaW.PrintWords Go.Proofs.YtekmhdiajjfgfaaW.PrintLast Go.Proofs.YtekmhdiajjfgfaaW.PrintMore
set_option linter.unusedVariables false
set_option linter.unusedSimpArgs false
def cotillionlaw11_awake.f : Option Bool := some true
theorem info5 : (Try.prog.info? 5).map (fun i => (i.zero, i.size, i.bytes)) = some (some (.int .u8 0), 1, 1) := by kernel_rfl
def Z250 : Array Value := Array.replicate 250 (.int .u8 0)
theorem made250 : madeCells (Value.int .u8 0).cells 250 = Z250 := by kernel_rfl
theorem mk250 (w : World) : (Instr.makeSlice 81 (.int .i64 250) (.int .i64 250)).run Try.prog w = .ok (.slice (some ⟨w.heap.size, 0, none⟩) 250 250) (w.alloc (.cells Z250 5)) := by
  have h := info5
  cases hi : Try.prog.info? 5 with
  | none => rw [hi] at h; cases h
  | some i =>
    rw [hi] at h
    simp only [Option.map_some, Option.some.injEq, Prod.mk.injEq] at h
    obtain ⟨hz, hs, hb⟩ := h
    have := run_make (P := Try.prog) w 81 5 i _ Try.underlying81 hi hz .i64 .i64 250 250 (by decide) (by decide) (by rw [hb]; decide) (by decide)
    rw [this, hs, ← made250]; rfl
theorem z250_cell (w : World) (i : Nat) (hi : i < 250) : (w.alloc (.cells Z250 5)).cell? ⟨w.heap.size, 0 + i, none⟩ = some (.int .u8 ((List.replicate 250 (0 : Int)).getD i 0)) := by
  rw [World.cell?_alloc_at _ _ _ _ rfl, Nat.zero_add, List.getD_eq_getElem?_getD]
  simp only [Z250]
  rw [Array.getElem?_replicate, if_pos hi, List.getElem?_replicate, if_pos hi]; rfl
def t250 : ByteArray := strOfNums (List.replicate 250 0)
theorem t250_size : t250.size = 250 := by rw [t250, strOfNums_size, List.length_replicate]
theorem cv250 (w : World) : (convert 81 9 (.slice (some ⟨w.heap.size, 0, none⟩) 250 250)).run Try.prog (w.alloc (.cells Z250 5)) = .ok (.string t250) (w.alloc (.cells Z250 5)) :=
  run_convert_bytes_arg _ _ _ Try.underlying81 Try.underlying5 _ 0 250 250 (List.replicate 250 0) List.length_replicate (fun i hi => z250_cell w i hi) _ Try.underlying9
attribute [local irreducible] Z250 t250

set_option maxRecDepth 100000 in
set_option maxHeartbeats 1600000 in
theorem cotillionlaw11_awake.calls0 (w : World) : Calls Try.prog 12 #[] w fun e w' => e = .returned (.bool true) ∧ Below w.heap.size w w' := by
  go_enter Try.func12, Try.ntmps12
  have hmk := mk250
  have hcv := cv250
  have hsp := split_is 3 t250 (by rw [t250_size]; decide) 1000 (by rw [t250_size]; decide)
  have hc3 : cnt t250.size = 3 := by rw [t250_size]; rfl
  rw [hc3] at hsp
  have HS := hid hsp
  clear hsp
  go_wp2_with (first | (go_at_call 10; refine (chunk_Split.calls _ _ _ _ _ HS.out).mono ?_; rintro e w1 ⟨v, rfl, hv, hb⟩) | (go_at_call 25; refine (new_gather _).mono ?_; rintro e w2 ⟨rfl, hg, hk, hsz⟩))
  obtain ⟨g, cap, rfl, hgb, hgl, _⟩ := Kd.R_form hv (by rw [pcs_len]; decide)
  have hC := (Kd.R_reads' hv).2.2
  have h0 := at_T31 hC 0 (by decide) (by rw [pcs_len]; decide)
  have h2 := at_T31 hC 2 (by decide) (by rw [pcs_len]; decide)
  rw [show (0 : Int) = ((0 : Nat) : Int) from rfl, pcs_at (i := 0) _ _ _ (by decide)] at h0
  rw [show (2 : Int) = ((2 : Nat) : Int) from rfl, pcs_at (i := 2) _ _ _ (by decide)] at h2
  obtain ⟨a0, e0, c00, c01, c02, c03, c04⟩ := h0
  obtain ⟨a2, e2, c20, c21, c22, c23, c24⟩ := h2
  obtain rfl := Option.some.inj e0
  obtain rfl := Option.some.inj e2
  have d00 : w1.cell? ⟨g, 0, none⟩ = some (.int .i64 3) := c00
  have d01 : w1.cell? ⟨g, 1, none⟩ = some (.int .i64 t250.size) := c01
  have d02 : w1.cell? ⟨g, 2, none⟩ = some (.int .u64 (fnv t250)) := c02
  have d03 : w1.cell? ⟨g, 3, none⟩ = some (.int .i64 0) := c03
  have d04 : w1.cell? ⟨g, 4, none⟩ = some (.string (ext t250 0)) := c04
  have d20 : w1.cell? ⟨g, 10, none⟩ = some (.int .i64 3) := c20
  have d23 : w1.cell? ⟨g, 13, none⟩ = some (.int .i64 2) := c23
  have d24 : w1.cell? ⟨g, 14, none⟩ = some (.string (ext t250 2)) := c24
  clear c00 c01 c02 c03 c04 c20 c21 c22 c23 c24 e0 e2 hC hv
  have d00 := hk.cell d00 (fun x => x); have d01 := hk.cell d01 (fun x => x); have d02 := hk.cell d02 (fun x => x); have d03 := hk.cell d03 (fun x => x); have d04 := hk.cell d04 (fun x => x)
  have d20 := hk.cell d20 (fun x => x); have d23 := hk.cell d23 (fun x => x); have d24 := hk.cell d24 (fun x => x)
  have hz : (ext t250 2).size = 50 := by rw [ext_size _ _ (by rw [hc3]; decide), t250_size]; decide
  rw [pcs_len]
  obtain ⟨q, hq⟩ : ∃ q, w1.heap.size + 1 = q := ⟨_, rfl⟩
  rw [hq] at hg ⊢
  have hlq : w.heap.size ≤ q := by have := hb.size; simp at this; omega
  have KK : Kp (fun k => k = q) w w2 := (((Kp.refl _ w).alloc _).trans (Kp.of_below hb _)).trans (hk.mono (fun _ _ x => x.elim))
  have KK := hid KK; have HG := hid hg
  clear hmk hcv hb hk hg
  have hu23 := Try.underlying23
  have hu31 := Try.underlying31
  have hlen : ∀ W : World, (Builtin.len_ #[23] 3 #[.slice (some ⟨g, 0, none⟩) 3 cap]).run Try.prog W = .ok (.int .i64 3) W := fun W => run_len_slice W _ _ _ 3 cap hu23
  have hlen2 : ∀ W : World, (Builtin.len_ #[9] 3 #[.string (ext t250 2)]).run Try.prog W = .ok (.int .i64 50) W := fun W => by
    have h := run_len_string (P := Try.prog) W 9 3 (ext t250 2) Try.underlying9
    rw [hz] at h; exact h
  go_wp2_with (first | (rw [hlen]; go_simp) | (rw [hlen2]; go_simp) | (go_at_call 13; refine (chunk_Count.calls 101 2 _ (by kernel_rfl)).mono ?_; rintro e w3 ⟨rfl, hb3⟩; have kk := Kp.of_below hb3 (fun _ => False); have d00 := kk.cell d00 (fun x => x); have d01 := kk.cell d01 (fun x => x); have d02 := kk.cell d02 (fun x => x); have d03 := kk.cell d03 (fun x => x); have d04 := kk.cell d04 (fun x => x); have HG3 := hid (HG.out.kp kk (fun x => x)); have KK3 := hid (KK.out.trans (kk.mono (fun _ _ x => x.elim))); clear kk hb3) | (go_at_call 26; refine (put_first 2 q _ 3 t250.size (fnv t250) 0 (ext t250 0) _ HG3.out (by simpa using check_is 3 (fnv t250) t250 (by rw [t250_size]; decide) (by decide) (by decide) 0 (by rw [hc3]; decide) 2 (by decide)) (by decide) (by rw [ext_size _ _ (by rw [hc3]; decide), t250_size]; decide)).mono ?_; rintro e w4 ⟨rfl, hk4⟩))
  go_ret
  exact ⟨by rfl, Kp.below (KK3.out.trans hk4) (Nat.le_refl _) (fun k hk e => by omega)⟩
theorem cotillionlaw11_awake.calls (r : Bool) (w : World) (h : cotillionlaw11_awake.f = some r) : Calls Try.prog 12 #[] w fun e w' => e = .returned (.bool r) ∧ Below w.heap.size w w' := by
  obtain rfl := Option.some.inj h
  exact cotillionlaw11_awake.calls0 w
end Go.Proofs.Ytekmhdiajjfgfaa.QChunkSplits
