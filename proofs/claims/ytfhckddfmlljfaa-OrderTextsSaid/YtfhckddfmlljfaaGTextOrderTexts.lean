/- Batch.Text in the print's own form. -/
import Derived.Test.YtfhckddfmlljfaaQOrderTextsx0
import Derived.Test.YtfhckddfmlljfaaBatchText
namespace Go.Proofs.Ytfhckddfmlljfaa.QOrderTexts
open Go.Proofs.Ytfhckddfmlljfaa Go.RowKit Go.Proofs.YtfhckddfmlljfaaW.PrintWords Go.Proofs.YtfhckddfmlljfaaW.PrintLast Go.Proofs.YtfhckddfmlljfaaW.PrintMore
def ordOf (x : S44) : Ord := (x.f0, x.f1, x.f2, x.f3)
instance (o : Ord) : Decidable o.wf := by unfold Ord.wf; infer_instance
def order_Batch_Text.f (l : List S44) : Option ByteArray := if l.length ≤ 1000 ∧ (∀ x ∈ l, (ordOf x).wf) then some (batchBytes (l.map ordOf)) else none
theorem ords_of {w : World} {A : Option Addr} {l : List S44} (h : Kd.C k44 w A l.length l) : Ords w A (l.map ordOf) := by
  rcases Nat.eq_zero_or_pos l.length with h0 | h0
  · exact .inl (by rw [List.length_eq_zero_iff.1 h0]; rfl)
  · obtain ⟨ad, rfl, _⟩ := at_T44 h 0 (by decide) (by omega)
    refine .inr ⟨ad, rfl, fun j x hj => ?_⟩
    rw [List.getElem?_map] at hj
    obtain ⟨y, hy, rfl⟩ := Option.map_eq_some_iff.1 hj
    have hlt : j < l.length := (List.getElem?_eq_some_iff.1 hy).1
    obtain ⟨ad', e, c0, c1, c2, c3⟩ := at_T44 h (j : Int) (by omega) (by omega)
    cases e
    have e : rd_T44 l (j : Int) = y := by simp [rd_T44, List.getD_eq_getElem?_getD, hy]
    rw [e] at c0 c1 c2 c3
    exact ⟨c0, c1, c2, c3⟩
theorem order_Batch_Text.calls (A0 : Option Addr) (c0 : Nat) (l0 : List S44) (r : ByteArray) (w : World) (hr0 : Kd.C k44 w A0 l0.length l0) (hc0 : l0.length ≤ c0) (h : order_Batch_Text.f l0 = some r) :
    Calls Try.prog 23 #[.slice A0 l0.length c0] w fun e w' => e = .returned (.string r) ∧ Below w.heap.size w w' := by
  unfold order_Batch_Text.f at h
  split at h
  · rename_i hl
    cases h
    have ho := ords_of hr0
    have hlen : (l0.map ordOf).length = l0.length := List.length_map _
    have hwf : ∀ o ∈ l0.map ordOf, o.wf := fun o hm => by obtain ⟨x, hx, rfl⟩ := List.mem_map.1 hm; exact hl.2 x hx
    rcases ho.lt with h0 | hA
    · have h00 : l0.length = 0 := by rw [← hlen, h0]; rfl
      have hl0 := List.length_eq_zero_iff.1 h00
      subst hl0
      exact batch_text_nil A0 c0 w
    · have := batch_text A0 c0 (l0.map ordOf) w ho hA (by omega) hwf (by omega)
      rw [hlen] at this
      exact this
  · cases h
end Go.Proofs.Ytfhckddfmlljfaa.QOrderTexts
