/- Own words, part 18: a call in a world: its arguments never change, nothing that was there turns. No program is named here. -/
import Derived.Test.YtnkdkajllmopaaaGreatTD
import Derived.Below
namespace Go.Proofs.YtnkdkajllmopaaaGreat.TL
open Go
set_option linter.unusedVariables false
set_option linter.unusedSimpArgs false

/-- All that is there is known, nothing is the call's own. -/
def Env.start (W : World) : Env := { I := fun r o => W.cell? ⟨r, o, none⟩, ρ := fun _ => none, c := 0 }

theorem callT_world {P : Program} {f : Nat} {args : List TV} {K : TV → Heap → Prop} (h : callT P f args ⟨[], []⟩ K) (W : World) (vs : List Value) (hl : vs.length = args.length) (hv : RVl (Env.start W) args (fun i => vs[i]?) 0) (hG : ∀ g l, gvals g = some l → ∀ o v, l[o]? = some v → W.cell? ⟨g, o, none⟩ = some v := by simp) :
    Calls P f vs.toArray W fun en W' => ∃ v, en = .returned v ∧ Go.RowKit.Below W.heap.size W W' ∧ ∃ r h' E', K r h' ∧ RV E' r v := by
  have H : SatH ⟨W, Env.start W, fun _ => False, hG⟩ (Env.start W) [] W := by
    refine ⟨fun r o v hI => hI, fun b ver B hb => ?_, fun b _ => rfl, fun b ver R hR => ?_, fun b ver q hq => ?_, fun b b' ver ver' q q' hq => ?_, ?_⟩
    · cases hb
    · cases hR
    · cases hq
    · cases hq
    · exact ⟨Nat.le_refl _, fun _ _ _ => rfl, rfl, rfl, rfl, Env.Le.refl _, fun r o v hI => .inl ⟨v, hI⟩⟩
  refine (h.2 _ _ W vs H hl hv).mono fun en W' hh => ?_
  obtain ⟨v, r, h', E', rfl, hK, _, H', hr⟩ := hh
  exact ⟨v, rfl, ⟨H'.gr.os, H'.gr.tape, H'.gr.output, H'.gr.size, fun k hk => H'.gr.frame k hk id⟩, r, h', E', hK, hr⟩

/-- A slice's cells in the world where the call begins. -/
theorem RV_slice {W : World} {a : Option Addr} {n cap : Nat} {cells : List TV} (hn : n ≤ cap) (h : (a = none ∧ n = 0 ∧ cap = 0 ∧ cells = []) ∨ ∃ ad, a = some ad ∧ (cells = [] ∨ (ad.spot = none ∧ ∀ j x, cells[j]? = some x → ∃ v, W.cell? (ad.add j) = some v ∧ RV (Env.start W) x v))) : RV (Env.start W) (.isl cells n) (.slice a n cap) := by
  simp only [RV]
  rcases h with ⟨rfl, rfl, rfl, rfl⟩ | ⟨ad, rfl, h⟩
  · exact .inl ⟨rfl, rfl, rfl⟩
  · refine .inr ⟨ad, cap, rfl, hn, h.imp id fun ⟨h1, h2⟩ => ⟨h1, RVl.of fun j x hx => ?_⟩⟩
    obtain ⟨v, k1, k2⟩ := h2 j x hx
    refine ⟨v, ?_, k2⟩
    show W.cell? ⟨ad.block, ad.off + j, none⟩ = some v
    rw [← k1]
    obtain ⟨b, o, sp⟩ := ad
    simp only at h1
    subst h1
    unfold Addr.add
    by_cases hj : j = 0 <;> simp [hj]

theorem spot_none {W : World} {a : Addr} {v : Value} (h : W.cell? a = some v) : a.spot = none := by
  unfold World.cell? at h
  split at h
  · split at h
    · cases h
    · rename_i hs
      cases hh : a.spot with
      | none => rfl
      | some x => rw [hh] at hs; simp at hs
  · cases h
end Go.Proofs.YtnkdkajllmopaaaGreat.TL
