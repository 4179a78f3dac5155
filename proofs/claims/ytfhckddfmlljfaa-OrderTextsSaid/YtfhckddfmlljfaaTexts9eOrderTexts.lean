/- The reference's text of a batch that may be; the program's parse of it. -/
import Derived.Test.YtfhckddfmlljfaaTexts9dOrderTexts
namespace Go.Proofs.Ytfhckddfmlljfaa.QOrderTexts
open Go.Proofs.Ytfhckddfmlljfaa Go.RowKit Go.Proofs.YtfhckddfmlljfaaW.PrintWords Go.Proofs.YtfhckddfmlljfaaW.PrintLast Go.Proofs.YtfhckddfmlljfaaW.PrintMore
set_option linter.unusedVariables false
set_option linter.unusedSimpArgs false
/-- A batch's bytes. -/
def bts (os : List S44) : List UInt8 := nb os.length ++ obs (os.map ordOf)
theorem bts_is (os : List S44) : batchBytes (os.map ordOf) = B (bts os) := by
  unfold batchBytes bts B
  simp [cbs, cb_in]
theorem M_wf {x : S44} (h : M x) : (ordOf x).wf := by
  obtain ⟨h0, h1, h2, h3⟩ := h
  unfold Ord.wf ordOf; simp only; omega
theorem text_M (os : List S44) (hT : ∀ x ∈ os, May x) (hl : os.length ≤ 8) : order_Batch_Text.f os = some (B (bts os)) := by
  unfold order_Batch_Text.f
  rw [if_pos ⟨by omega, fun x hx => M_wf (hT x hx).1⟩, bts_is]
theorem parse_M (os : List S44) (hT : ∀ x ∈ os, May x) (hl : os.length ≤ 8) (k : Nat) (hk : 60 ≤ k) : order_Parse.f k (B (bts os)) = some (os, 0) := by
  obtain ⟨q, rfl⟩ : ∃ q, k = 2 * os.length + 40 + q := ⟨k - (2 * os.length + 40), by omega⟩
  have h := read_M os q [] [] hT (by simp; omega)
  rw [List.append_nil, List.nil_append] at h
  unfold order_Parse.f wire_Open.f order_Read.f bts
  simp only [Option.bind_some]
  rw [count_any _ (by omega) (by omega) (by omega) (by omega)]
  simp only [Option.bind_some]
  rw [h]
  simp only [Option.bind_some, wire_In_End.f, B_list]
  rfl
theorem reftext_l0 (l : List S44) (hl : l.length ≤ 8) (hT : ∀ x ∈ l, May x) : ∀ (d q i : Nat) (p : List UInt8), i + d = l.length → p.length ≤ 100 + 40 * i →
    cotillionref09_Text.l0 (d + 11 + q) (B p) (l.map tw) l.length i = some (B (p ++ obs ((l.drop i).map ordOf)))
  | 0, q, i, p, hd, hp => by
    rw [show 0 + 11 + q = (10 + q) + 1 from by omega, cotillionref09_Text.l0, if_neg (by omega), List.drop_of_length_le (by omega)]
    simp [obs]
  | d + 1, q, i, p, hd, hp => by
    have hi : i < l.length := by omega
    have hx := hT l[i] (List.getElem_mem hi)
    have hw : wrap64 ((i : Int) + 1) = ((i + 1 : Nat) : Int) := wrap_in (by omega) (by omega)
    have ex : l.drop i = l[i] :: l.drop (i + 1) := List.drop_eq_getElem_cons hi
    have ol := ob_length (M_wf hx.1)
    rw [ob_M hx.1] at ol
    simp only [List.length_append] at ol
    obtain ⟨h0, h1, h2, h3⟩ := hx.1
    have ih := reftext_l0 l hl hT d q (i + 1) (p ++ (nb l[i].f0 ++ nb l[i].f1 ++ ib l[i].f2 ++ ib l[i].f3)) (by omega) (by simp only [List.length_append]; omega)
    have eu : IntKind.u64.wrap l[i].f1 = l[i].f1 := by rw [IntKind.wrap_u64]; omega
    rw [show d + 1 + 11 + q = (d + 11 + q) + 1 from by omega, cotillionref09_Text.l0, if_pos (by omega), if_pos (by omega), if_pos (by simp; omega), at77 l hi]
    simp only [tw, eu]
    rw [refcount _ (by omega) (by omega) (by omega), Option.bind_some, refnum _ (by omega) h1.1 (by omega), Option.bind_some]
    rw [if_pos (by rw [B_size, B_size]; omega), refint _ (by omega) (by omega) (by omega), Option.bind_some, B_app]
    rw [if_pos (by rw [B_size, B_size, List.length_append]; omega), refint _ (by omega) (by omega) (by omega), Option.bind_some, B_app]
    rw [if_pos (by rw [B_size, B_size, List.length_append, List.length_append]; omega), B_app]
    rw [if_pos (by rw [B_size, B_size, List.length_append, List.length_append, List.length_append]; omega), B_app, hw, ih, ex, obs_M hx.1]
    simp only [List.append_assoc]
theorem reftext (l : List S44) (hl : l.length ≤ 8) (hT : ∀ x ∈ l, May x) (k : Nat) (hk : 20 ≤ k) : cotillionref09_Text.f k (l.map tw) = some (B (bts l)) := by
  obtain ⟨q, rfl⟩ : ∃ q, k = l.length + 11 + q := ⟨k - (l.length + 11), by omega⟩
  unfold cotillionref09_Text.f
  rw [List.length_map, refcount _ (by omega) (by omega) (by omega), Option.bind_some]
  have hn := nb_length (n := (l.length : Int)) (by omega)
  have := reftext_l0 l hl hT l.length q 0 (nb l.length) (by omega) (by omega)
  rw [List.drop_zero] at this
  exact this
end Go.Proofs.Ytfhckddfmlljfaa.QOrderTexts
