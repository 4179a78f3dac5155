/- Records, told. -/
import Derived.Test.YtgkhedmjkahclaaGreatDoorURec
namespace Go.Proofs.YtgkhedmjkahclaaGreatDoor.TL
open Go
set_option linter.unusedVariables false
set_option linter.unusedSimpArgs false

set_option maxHeartbeats 4000000 in
set_option maxRecDepth 100000 in
theorem RcTold_T (r : Rec) (hc : r.c.length ≤ 1000000) (hl : r.l.length ≤ 1000000) (hb : ∀ p ∈ r.l, p.b.length ≤ 1000000) : callT Tryz.prog 12 [.agg r.cells] ⟨[], []⟩ (fun x h => x = .agg r.cells ∧ h = []) := by
  refine callT.mono (K := fun x h => ∃ u, x = .agg [i64c r.t, .isl (rowG r.c) r.c.length, i64c r.pt, i64c r.pd, .sl 1001 u 0 r.l.length] ∧ h = [(1001, u, ⟨2, rowP r.l⟩)]) ?_ fun x h hh => ?_
  · refine callT_of_body [0, 1, 2, 3, 5, 15, 16, 17, 18] [1001] Tryz.func12 rfl (by decide) (by kernel_rfl) rfl ?_
    simp [Rec.cells, i64c]
    intro v1 v2
    refine drawT_cut (α := Nat × Nat) (fun _ => True) (fun x => ⟨[(1, .at 1 v1 0), (2, .at 2 v2 0), (3, .at 3 x.1 0)], [(1, v1, ⟨0, r.cells⟩), (2, v2, ⟨0, [i64c 0, .v (.slice none 0 0), i64c 0, i64c 0, .v (.slice none 0 0)]⟩), (3, x.1, ⟨0, [i64c r.t, .isl (rowG r.c) r.c.length, i64c r.pt, i64c r.pd, .v (.slice none 0 0)]⟩)]⟩) ?_ ?_
    · refine draw_h (pl [0, 1, 2, 3, 5, 6] (.alt 4 (pl [7, 8] .nil) 8 (pl [4, 7] .nil))) 9 [(4, [2, 3]), (8, [])] (by kernel_rfl) (by kernel_rfl) (by kernel_rfl) (by kernel_rfl) ?_
      simp [Rec.cells, i64c]
      refine ⟨?_, fun v3 => ?_⟩
      · refine callT_eq [] (Told_T r.c hc) ?_
        simp [Rec.cells, i64c]
        intro v3
        exact SLx.at (v3, 0) trivial (by simp [i64c]) (by simp [Rec.cells, i64c])
      · refine callT_eq [] (Told_T r.c hc) ?_
        simp [Rec.cells, i64c]
        exact SLx.at (v3, 0) trivial (by simp [i64c]) (by simp [Rec.cells, i64c])
    rintro ⟨v3, z0⟩ -
    simp [Rec.cells, i64c]
    refine ⟨Nat × Nat, fun x => x.1 ≤ r.l.length, fun x => ⟨[(2, .at 2 v2 0), (3, .at 3 v3 0), (15, .isl (rowP r.l) r.l.length), (16, .v (.int .i64 r.l.length)), (17, .v (.int .i64 x.1))], [(2, v2, ⟨0, [i64c 0, .v (.slice none 0 0), i64c 0, i64c 0, .v (.slice none 0 0)]⟩), (3, v3, ⟨0, [i64c r.t, .isl (rowG r.c) r.c.length, i64c r.pt, i64c r.pd, .sl 1001 x.2 0 x.1]⟩), (1001, x.2, ⟨2, rowP (r.l.take x.1)⟩)]⟩, fun x => r.l.length - x.1, ?_, ?_⟩
    · refine SLx.nilCell 3 4 1001 2 (by decide) (by decide) rfl rfl fun u => SLx.fin _ ⟨(0, u), by simp, rfl⟩ ?_ ?_
      · simp
      · simp [i64c, setH]
    rintro ⟨k, u⟩ hk
    simp only at hk ⊢
    by_cases g : k < r.l.length
    · have hat := rowP_at g
      have hbk := hb r.l[k] (List.getElem_mem g)
      have hsn : rowP (r.l.take (k + 1)) = rowP (r.l.take k) ++ r.l[k].cells := by rw [List.take_succ_eq_append_getElem g, rowP_snoc]
      have hlen : (rowP (r.l.take k)).length = k * 2 := by simp; omega
      have e1 : IntKind.i64.wrap ((k : Int) + 1) = ((k + 1 : Nat) : Int) := by rw [i64_id (by omega) (by omega)]; rfl
      generalize rowP (r.l.take k) = P at hsn hlen ⊢
      have htk : List.take (k * 2) P = P := List.take_of_length_le (by omega)
      have hdr : List.drop (k * 2 + 2) P = [] := List.drop_of_length_le (by omega)
      simp [g, hat, i64c]
      intro v5
      refine draw_g [0, 1, 2, 3, 4, 5, 6, 7, 8] 9 [(6, [4, 5])] (by kernel_rfl) (by kernel_rfl) (by kernel_rfl) ?_
      simp
      refine callT_eq [] (Told9_T r.l[k].b hbk) ?_
      simp [i64c]
      refine ⟨by omega, by omega, by omega, fun u3 => ?_⟩
      exact SLx.again (k + 1, u3) (by simp only; omega) (by simp only; omega) (by simp [e1]) (by simp [hsn, htk, hdr, Ply.cells, i64c])
    · have : k = r.l.length := by omega
      subst this
      simp [i64c]
  · obtain ⟨u, rfl, rfl⟩ := hh
    refine VLx.frz 1001 rfl (VLx.done ?_)
    simp [Rec.cells, i64c, rowP_tk]
end Go.Proofs.YtgkhedmjkahclaaGreatDoor.TL
