/- Written by a program for this claim (see NOTES.md of the claims' repo). Mirrors, as plain Lean functions, of Go functions that the law OrderTexts reaches, and proofs that the calls come to what these say. No conditions. -/
import Derived.Test.YtfhckddfmlljfaaQOrderTextsx0
import Derived.Test.YtfhckddfmlljfaaQOrderTextsx4
import Derived.Test.YtfhckddfmlljfaaQOrderTextsx5
import Derived.Test.YtfhckddfmlljfaaQOrderTextsx6
import Derived.Test.YtfhckddfmlljfaaQOrderTextsx7
import Derived.Test.YtfhckddfmlljfaaQOrderTextsx8
import Derived.Test.YtfhckddfmlljfaaGTextOrderTexts
namespace Go.Proofs.Ytfhckddfmlljfaa.QOrderTexts
open Go.RowKit Go.Proofs.YtfhckddfmlljfaaW.PrintWords Go.Proofs.YtfhckddfmlljfaaW.PrintLast Go.Proofs.YtfhckddfmlljfaaW.PrintMore
attribute [local go_sem] max2_int min2_int max_two min_two max_three min_three max_four min_four   -- for this text's walks alone
set_option linter.unusedVariables false
set_option linter.unusedSimpArgs false

/-! ### cotillionlaw09_OrderTexts: function 8 -/
mutual
def cotillionlaw09_OrderTexts.j0 : Nat → List (S44) → Int → Bool → Option (Bool)
  | 0, _, _, _ => none
  | k + 1, x5, x6, x33 => if x33 = true then (some false) else (if x6 = 0 then ((order_Batch_Text.f x5).bind fun t263 => ((order_Parse.f k t263).bind fun bt264 => ((order_Batch_Text.f x5).bind fun t268 => ((cotillionlaw09_Told.f k x5).bind fun t269 => ((cotillionref09_Text.f k t269).bind fun t272 => (if t268.toList = t272.toList then (if bt264.2 = 0 then ((cotillionlaw09_Told.f k x5).bind fun t273 => ((cotillionlaw09_Same.f k bt264.1 t273).bind fun t276 => (some (t276 == 0)))) else (some false)) else (some false))))))) else (some true))
def cotillionlaw09_OrderTexts.j1 : Nat → List (S44) → Int → Bool → Option (Bool)
  | 0, _, _, _ => none
  | k + 1, x5, x6, x33 => if x33 = true then (some false) else (if x6 = 0 then ((order_Batch_Text.f x5).bind fun t282 => ((order_Parse.f k t282).bind fun bt283 => ((order_Batch_Text.f x5).bind fun t287 => ((cotillionlaw09_Told.f k x5).bind fun t288 => ((cotillionref09_Text.f k t288).bind fun t291 => (if t287.toList = t291.toList then (if bt283.2 = 0 then ((cotillionlaw09_Told.f k x5).bind fun t292 => ((cotillionlaw09_Same.f k bt283.1 t292).bind fun t295 => (some (t295 == 0)))) else (some false)) else (some false))))))) else (some true))
def cotillionlaw09_OrderTexts.j2 : Nat → List (S44) → Int → Bool → Option (Bool)
  | 0, _, _, _ => none
  | k + 1, x5, x6, x33 => if x33 = true then (some false) else (if x6 = 0 then ((order_Batch_Text.f x5).bind fun t304 => ((order_Parse.f k t304).bind fun bt305 => ((order_Batch_Text.f x5).bind fun t309 => ((cotillionlaw09_Told.f k x5).bind fun t310 => ((cotillionref09_Text.f k t310).bind fun t313 => (if t309.toList = t313.toList then (if bt305.2 = 0 then ((cotillionlaw09_Told.f k x5).bind fun t314 => ((cotillionlaw09_Same.f k bt305.1 t314).bind fun t317 => (some (t317 == 0)))) else (some false)) else (some false))))))) else (some true))
def cotillionlaw09_OrderTexts.j3 : Nat → List (S44) → Int → Bool → Option (Bool)
  | 0, _, _, _ => none
  | k + 1, x5, x6, x33 => if x33 = true then (some false) else (if x6 = 0 then ((order_Batch_Text.f x5).bind fun t323 => ((order_Parse.f k t323).bind fun bt324 => ((order_Batch_Text.f x5).bind fun t328 => ((cotillionlaw09_Told.f k x5).bind fun t329 => ((cotillionref09_Text.f k t329).bind fun t332 => (if t328.toList = t332.toList then (if bt324.2 = 0 then ((cotillionlaw09_Told.f k x5).bind fun t333 => ((cotillionlaw09_Same.f k bt324.1 t333).bind fun t336 => (some (t336 == 0)))) else (some false)) else (some false))))))) else (some true))
end
def cotillionlaw09_OrderTexts.f (k : Nat) (l0 : List (S44)) (a1 : Bool) : Option (Bool) := (cotillionlaw09_awake.f k).bind fun t250 => (if t250 = true then (if (l0.length : Int) > 10 then (if 10 ≤ (l0.length : Int) then ((some (l0.take 10 : List (S44))).bind fun y251 => (if a1 = true then ((cotillionlaw09_Tidy.f k y251).bind fun t255 => ((order_Batch_Check.f k t255).bind fun t258 => ((cotillionlaw09_Told.f k t255).bind fun t259 => ((cotillionref09_CheckAll.f k t259).bind fun t262 => (if t258 = t262 then (cotillionlaw09_OrderTexts.j0 k t255 t258 (t258 != 0)) else (cotillionlaw09_OrderTexts.j0 k t255 t258 true)))))) else ((order_Batch_Check.f k y251).bind fun t277 => ((cotillionlaw09_Told.f k y251).bind fun t278 => ((cotillionref09_CheckAll.f k t278).bind fun t281 => (if t277 = t281 then (cotillionlaw09_OrderTexts.j1 k y251 t277 false) else (cotillionlaw09_OrderTexts.j1 k y251 t277 true))))))) else (none)) else (if a1 = true then ((cotillionlaw09_Tidy.f k l0).bind fun t296 => ((order_Batch_Check.f k t296).bind fun t299 => ((cotillionlaw09_Told.f k t296).bind fun t300 => ((cotillionref09_CheckAll.f k t300).bind fun t303 => (if t299 = t303 then (cotillionlaw09_OrderTexts.j2 k t296 t299 (t299 != 0)) else (cotillionlaw09_OrderTexts.j2 k t296 t299 true)))))) else ((order_Batch_Check.f k l0).bind fun t318 => ((cotillionlaw09_Told.f k l0).bind fun t319 => ((cotillionref09_CheckAll.f k t319).bind fun t322 => (if t318 = t322 then (cotillionlaw09_OrderTexts.j3 k l0 t318 false) else (cotillionlaw09_OrderTexts.j3 k l0 t318 true))))))) else (some false))
theorem cotillionlaw09_OrderTexts.mono_l : ∀ k, (∀ y0 y1 y2, LeO (cotillionlaw09_OrderTexts.j0 k y0 y1 y2) (cotillionlaw09_OrderTexts.j0 (k + 1) y0 y1 y2)) ∧ (∀ y0 y1 y2, LeO (cotillionlaw09_OrderTexts.j1 k y0 y1 y2) (cotillionlaw09_OrderTexts.j1 (k + 1) y0 y1 y2)) ∧ (∀ y0 y1 y2, LeO (cotillionlaw09_OrderTexts.j2 k y0 y1 y2) (cotillionlaw09_OrderTexts.j2 (k + 1) y0 y1 y2)) ∧ (∀ y0 y1 y2, LeO (cotillionlaw09_OrderTexts.j3 k y0 y1 y2) (cotillionlaw09_OrderTexts.j3 (k + 1) y0 y1 y2))
  | 0 => ⟨fun _ _ _ r h => by simp [cotillionlaw09_OrderTexts.j0] at h, fun _ _ _ r h => by simp [cotillionlaw09_OrderTexts.j1] at h, fun _ _ _ r h => by simp [cotillionlaw09_OrderTexts.j2] at h, fun _ _ _ r h => by simp [cotillionlaw09_OrderTexts.j3] at h⟩
  | k + 1 => by
    obtain ⟨ih0, ih1, ih2, ih3⟩ := cotillionlaw09_OrderTexts.mono_l k
    refine ⟨?_, ?_, ?_, ?_⟩
    · intro y0 y1 y2
      unfold cotillionlaw09_OrderTexts.j0
      repeat' first
      | (with_reducible exact ih0 _ _ _)
      | (with_reducible exact ih1 _ _ _)
      | (with_reducible exact ih2 _ _ _)
      | (with_reducible exact ih3 _ _ _)
      | (with_reducible exact cotillionlaw09_Same.mono _ _ _)
      | (with_reducible exact cotillionlaw09_Tidy.mono _ _)
      | (with_reducible exact cotillionlaw09_Told.mono _ _)
      | (with_reducible exact cotillionlaw09_awake.mono _)
      | (with_reducible exact cotillionref09_CheckAll.mono _ _)
      | (with_reducible exact cotillionref09_Text.mono _ _)
      | (with_reducible exact order_Batch_Check.mono _ _)
      | (with_reducible exact order_Parse.mono _ _)
      | (with_reducible exact LeO.refl _)
      | (with_reducible exact LeO.none _)
      | (with_reducible refine LeO.ite ?_ ?_)
      | (with_reducible refine LeO.bind ?_ (fun _ => ?_))
      | exact ih0 _ _ _
      | exact ih1 _ _ _
      | exact ih2 _ _ _
      | exact ih3 _ _ _
      | exact cotillionlaw09_Same.mono _ _ _
      | exact cotillionlaw09_Tidy.mono _ _
      | exact cotillionlaw09_Told.mono _ _
      | exact cotillionlaw09_awake.mono _
      | exact cotillionref09_CheckAll.mono _ _
      | exact cotillionref09_Text.mono _ _
      | exact order_Batch_Check.mono _ _
      | exact order_Parse.mono _ _
      | exact LeO.none _
      | refine LeO.ite ?_ ?_
      | refine LeO.bind ?_ (fun _ => ?_)
    · intro y0 y1 y2
      unfold cotillionlaw09_OrderTexts.j1
      repeat' first
      | (with_reducible exact ih0 _ _ _)
      | (with_reducible exact ih1 _ _ _)
      | (with_reducible exact ih2 _ _ _)
      | (with_reducible exact ih3 _ _ _)
      | (with_reducible exact cotillionlaw09_Same.mono _ _ _)
      | (with_reducible exact cotillionlaw09_Tidy.mono _ _)
      | (with_reducible exact cotillionlaw09_Told.mono _ _)
      | (with_reducible exact cotillionlaw09_awake.mono _)
      | (with_reducible exact cotillionref09_CheckAll.mono _ _)
      | (with_reducible exact cotillionref09_Text.mono _ _)
      | (with_reducible exact order_Batch_Check.mono _ _)
      | (with_reducible exact order_Parse.mono _ _)
      | (with_reducible exact LeO.refl _)
      | (with_reducible exact LeO.none _)
      | (with_reducible refine LeO.ite ?_ ?_)
      | (with_reducible refine LeO.bind ?_ (fun _ => ?_))
      | exact ih0 _ _ _
      | exact ih1 _ _ _
      | exact ih2 _ _ _
      | exact ih3 _ _ _
      | exact cotillionlaw09_Same.mono _ _ _
      | exact cotillionlaw09_Tidy.mono _ _
      | exact cotillionlaw09_Told.mono _ _
      | exact cotillionlaw09_awake.mono _
      | exact cotillionref09_CheckAll.mono _ _
      | exact cotillionref09_Text.mono _ _
      | exact order_Batch_Check.mono _ _
      | exact order_Parse.mono _ _
      | exact LeO.none _
      | refine LeO.ite ?_ ?_
      | refine LeO.bind ?_ (fun _ => ?_)
    · intro y0 y1 y2
      unfold cotillionlaw09_OrderTexts.j2
      repeat' first
      | (with_reducible exact ih0 _ _ _)
      | (with_reducible exact ih1 _ _ _)
      | (with_reducible exact ih2 _ _ _)
      | (with_reducible exact ih3 _ _ _)
      | (with_reducible exact cotillionlaw09_Same.mono _ _ _)
      | (with_reducible exact cotillionlaw09_Tidy.mono _ _)
      | (with_reducible exact cotillionlaw09_Told.mono _ _)
      | (with_reducible exact cotillionlaw09_awake.mono _)
      | (with_reducible exact cotillionref09_CheckAll.mono _ _)
      | (with_reducible exact cotillionref09_Text.mono _ _)
      | (with_reducible exact order_Batch_Check.mono _ _)
      | (with_reducible exact order_Parse.mono _ _)
      | (with_reducible exact LeO.refl _)
      | (with_reducible exact LeO.none _)
      | (with_reducible refine LeO.ite ?_ ?_)
      | (with_reducible refine LeO.bind ?_ (fun _ => ?_))
      | exact ih0 _ _ _
      | exact ih1 _ _ _
      | exact ih2 _ _ _
      | exact ih3 _ _ _
      | exact cotillionlaw09_Same.mono _ _ _
      | exact cotillionlaw09_Tidy.mono _ _
      | exact cotillionlaw09_Told.mono _ _
      | exact cotillionlaw09_awake.mono _
      | exact cotillionref09_CheckAll.mono _ _
      | exact cotillionref09_Text.mono _ _
      | exact order_Batch_Check.mono _ _
      | exact order_Parse.mono _ _
      | exact LeO.none _
      | refine LeO.ite ?_ ?_
      | refine LeO.bind ?_ (fun _ => ?_)
    · intro y0 y1 y2
      unfold cotillionlaw09_OrderTexts.j3
      repeat' first
      | (with_reducible exact ih0 _ _ _)
      | (with_reducible exact ih1 _ _ _)
      | (with_reducible exact ih2 _ _ _)
      | (with_reducible exact ih3 _ _ _)
      | (with_reducible exact cotillionlaw09_Same.mono _ _ _)
      | (with_reducible exact cotillionlaw09_Tidy.mono _ _)
      | (with_reducible exact cotillionlaw09_Told.mono _ _)
      | (with_reducible exact cotillionlaw09_awake.mono _)
      | (with_reducible exact cotillionref09_CheckAll.mono _ _)
      | (with_reducible exact cotillionref09_Text.mono _ _)
      | (with_reducible exact order_Batch_Check.mono _ _)
      | (with_reducible exact order_Parse.mono _ _)
      | (with_reducible exact LeO.refl _)
      | (with_reducible exact LeO.none _)
      | (with_reducible refine LeO.ite ?_ ?_)
      | (with_reducible refine LeO.bind ?_ (fun _ => ?_))
      | exact ih0 _ _ _
      | exact ih1 _ _ _
      | exact ih2 _ _ _
      | exact ih3 _ _ _
      | exact cotillionlaw09_Same.mono _ _ _
      | exact cotillionlaw09_Tidy.mono _ _
      | exact cotillionlaw09_Told.mono _ _
      | exact cotillionlaw09_awake.mono _
      | exact cotillionref09_CheckAll.mono _ _
      | exact cotillionref09_Text.mono _ _
      | exact order_Batch_Check.mono _ _
      | exact order_Parse.mono _ _
      | exact LeO.none _
      | refine LeO.ite ?_ ?_
      | refine LeO.bind ?_ (fun _ => ?_)
theorem cotillionlaw09_OrderTexts.mono : ∀ a0 a1 k, LeO (cotillionlaw09_OrderTexts.f k a0 a1) (cotillionlaw09_OrderTexts.f (k + 1) a0 a1) := by
  intro a0 a1 k
  obtain ⟨ih0, ih1, ih2, ih3⟩ := cotillionlaw09_OrderTexts.mono_l k
  unfold cotillionlaw09_OrderTexts.f
  repeat' first
      | (with_reducible exact ih0 _ _ _)
      | (with_reducible exact ih1 _ _ _)
      | (with_reducible exact ih2 _ _ _)
      | (with_reducible exact ih3 _ _ _)
      | (with_reducible exact cotillionlaw09_Same.mono _ _ _)
      | (with_reducible exact cotillionlaw09_Tidy.mono _ _)
      | (with_reducible exact cotillionlaw09_Told.mono _ _)
      | (with_reducible exact cotillionlaw09_awake.mono _)
      | (with_reducible exact cotillionref09_CheckAll.mono _ _)
      | (with_reducible exact cotillionref09_Text.mono _ _)
      | (with_reducible exact order_Batch_Check.mono _ _)
      | (with_reducible exact order_Parse.mono _ _)
      | (with_reducible exact LeO.refl _)
      | (with_reducible exact LeO.none _)
      | (with_reducible refine LeO.ite ?_ ?_)
      | (with_reducible refine LeO.bind ?_ (fun _ => ?_))
      | exact ih0 _ _ _
      | exact ih1 _ _ _
      | exact ih2 _ _ _
      | exact ih3 _ _ _
      | exact cotillionlaw09_Same.mono _ _ _
      | exact cotillionlaw09_Tidy.mono _ _
      | exact cotillionlaw09_Told.mono _ _
      | exact cotillionlaw09_awake.mono _
      | exact cotillionref09_CheckAll.mono _ _
      | exact cotillionref09_Text.mono _ _
      | exact order_Batch_Check.mono _ _
      | exact order_Parse.mono _ _
      | exact LeO.none _
      | refine LeO.ite ?_ ?_
      | refine LeO.bind ?_ (fun _ => ?_)
set_option maxHeartbeats 8000000 in
set_option maxRecDepth 100000 in
theorem cotillionlaw09_OrderTexts.calls (k : Nat) (A0 : Option Addr) (c0 : Nat) (l0 : List (S44)) (a1 : Bool) (r : Bool) (w : World) (hr0 : Kd.C k44 w A0 l0.length l0) (hc0 : l0.length ≤ c0) (h : cotillionlaw09_OrderTexts.f k l0 a1 = some r) (ht_ : r = true) :
    Calls Try.prog 8 #[.slice A0 l0.length c0, .bool a1] w fun e w' => e = .returned (.bool r) ∧ Below w.heap.size w w' := by
  have HR0 := Aside0.mk hr0
  have HC0 := Aside0.mk hc0
  clear hr0 hc0
  have HB := Aside0.mk (Below.refl w.heap.size w)
  have H : ((cotillionlaw09_awake.f k).bind fun t250 => (if t250 = true then (if (l0.length : Int) > 10 then (if 10 ≤ (l0.length : Int) then ((some (l0.take 10 : List (S44))).bind fun y251 => (if a1 = true then ((cotillionlaw09_Tidy.f k y251).bind fun t255 => ((order_Batch_Check.f k t255).bind fun t258 => ((cotillionlaw09_Told.f k t255).bind fun t259 => ((cotillionref09_CheckAll.f k t259).bind fun t262 => (if t258 = t262 then (cotillionlaw09_OrderTexts.j0 k t255 t258 (t258 != 0)) else (cotillionlaw09_OrderTexts.j0 k t255 t258 true)))))) else ((order_Batch_Check.f k y251).bind fun t277 => ((cotillionlaw09_Told.f k y251).bind fun t278 => ((cotillionref09_CheckAll.f k t278).bind fun t281 => (if t277 = t281 then (cotillionlaw09_OrderTexts.j1 k y251 t277 false) else (cotillionlaw09_OrderTexts.j1 k y251 t277 true))))))) else (none)) else (if a1 = true then ((cotillionlaw09_Tidy.f k l0).bind fun t296 => ((order_Batch_Check.f k t296).bind fun t299 => ((cotillionlaw09_Told.f k t296).bind fun t300 => ((cotillionref09_CheckAll.f k t300).bind fun t303 => (if t299 = t303 then (cotillionlaw09_OrderTexts.j2 k t296 t299 (t299 != 0)) else (cotillionlaw09_OrderTexts.j2 k t296 t299 true)))))) else ((order_Batch_Check.f k l0).bind fun t318 => ((cotillionlaw09_Told.f k l0).bind fun t319 => ((cotillionref09_CheckAll.f k t319).bind fun t322 => (if t318 = t322 then (cotillionlaw09_OrderTexts.j3 k l0 t318 false) else (cotillionlaw09_OrderTexts.j3 k l0 t318 true))))))) else (some false))) = some r := h
  clear h
  replace H := Option.bind_eq_some_iff.mp H
  obtain ⟨t250, A30, H⟩ := H
  replace H : (if t250 = true then (if (l0.length : Int) > 10 then (if 10 ≤ (l0.length : Int) then ((some (l0.take 10 : List (S44))).bind fun y251 => (if a1 = true then ((cotillionlaw09_Tidy.f k y251).bind fun t255 => ((order_Batch_Check.f k t255).bind fun t258 => ((cotillionlaw09_Told.f k t255).bind fun t259 => ((cotillionref09_CheckAll.f k t259).bind fun t262 => (if t258 = t262 then (cotillionlaw09_OrderTexts.j0 k t255 t258 (t258 != 0)) else (cotillionlaw09_OrderTexts.j0 k t255 t258 true)))))) else ((order_Batch_Check.f k y251).bind fun t277 => ((cotillionlaw09_Told.f k y251).bind fun t278 => ((cotillionref09_CheckAll.f k t278).bind fun t281 => (if t277 = t281 then (cotillionlaw09_OrderTexts.j1 k y251 t277 false) else (cotillionlaw09_OrderTexts.j1 k y251 t277 true))))))) else (none)) else (if a1 = true then ((cotillionlaw09_Tidy.f k l0).bind fun t296 => ((order_Batch_Check.f k t296).bind fun t299 => ((cotillionlaw09_Told.f k t296).bind fun t300 => ((cotillionref09_CheckAll.f k t300).bind fun t303 => (if t299 = t303 then (cotillionlaw09_OrderTexts.j2 k t296 t299 (t299 != 0)) else (cotillionlaw09_OrderTexts.j2 k t296 t299 true)))))) else ((order_Batch_Check.f k l0).bind fun t318 => ((cotillionlaw09_Told.f k l0).bind fun t319 => ((cotillionref09_CheckAll.f k t319).bind fun t322 => (if t318 = t322 then (cotillionlaw09_OrderTexts.j3 k l0 t318 false) else (cotillionlaw09_OrderTexts.j3 k l0 t318 true))))))) else (some false)) = some r := H
  have A3 := Aside0.mk A30
  clear A30
  by_cases c4 : t250 = true
  · subst c4
    have H1 : (if (l0.length : Int) > 10 then (if 10 ≤ (l0.length : Int) then ((some (l0.take 10 : List (S44))).bind fun y251 => (if a1 = true then ((cotillionlaw09_Tidy.f k y251).bind fun t255 => ((order_Batch_Check.f k t255).bind fun t258 => ((cotillionlaw09_Told.f k t255).bind fun t259 => ((cotillionref09_CheckAll.f k t259).bind fun t262 => (if t258 = t262 then (cotillionlaw09_OrderTexts.j0 k t255 t258 (t258 != 0)) else (cotillionlaw09_OrderTexts.j0 k t255 t258 true)))))) else ((order_Batch_Check.f k y251).bind fun t277 => ((cotillionlaw09_Told.f k y251).bind fun t278 => ((cotillionref09_CheckAll.f k t278).bind fun t281 => (if t277 = t281 then (cotillionlaw09_OrderTexts.j1 k y251 t277 false) else (cotillionlaw09_OrderTexts.j1 k y251 t277 true))))))) else (none)) else (if a1 = true then ((cotillionlaw09_Tidy.f k l0).bind fun t296 => ((order_Batch_Check.f k t296).bind fun t299 => ((cotillionlaw09_Told.f k t296).bind fun t300 => ((cotillionref09_CheckAll.f k t300).bind fun t303 => (if t299 = t303 then (cotillionlaw09_OrderTexts.j2 k t296 t299 (t299 != 0)) else (cotillionlaw09_OrderTexts.j2 k t296 t299 true)))))) else ((order_Batch_Check.f k l0).bind fun t318 => ((cotillionlaw09_Told.f k l0).bind fun t319 => ((cotillionref09_CheckAll.f k t319).bind fun t322 => (if t318 = t322 then (cotillionlaw09_OrderTexts.j3 k l0 t318 false) else (cotillionlaw09_OrderTexts.j3 k l0 t318 true))))))) = some r := by rw [if_pos rfl] at H; exact H
    clear H
    have H := H1
    clear H1
    by_cases c5 : (l0.length : Int) > 10
    · rw [if_pos c5] at H
      have c5b0 : decide (10 < (l0.length : Int)) = true := decide_eq_true c5
      have c5b1 : decide (10 < l0.length) = true := decide_eq_true (by omega)
      clear c5
      by_cases c6 : 10 ≤ (l0.length : Int)
      · rw [if_pos c6] at H
        have c6b0 := eq_true c6
        have c6b1 : decide (10 ≤ (l0.length : Int)) = true := decide_eq_true c6
        clear c6
        obtain ⟨y251, hy251⟩ : ∃ y_ : List (S44), y_ = (l0.take 10) := ⟨_, rfl⟩
        replace H : (if a1 = true then ((cotillionlaw09_Tidy.f k y251).bind fun t255 => ((order_Batch_Check.f k t255).bind fun t258 => ((cotillionlaw09_Told.f k t255).bind fun t259 => ((cotillionref09_CheckAll.f k t259).bind fun t262 => (if t258 = t262 then (cotillionlaw09_OrderTexts.j0 k t255 t258 (t258 != 0)) else (cotillionlaw09_OrderTexts.j0 k t255 t258 true)))))) else ((order_Batch_Check.f k y251).bind fun t277 => ((cotillionlaw09_Told.f k y251).bind fun t278 => ((cotillionref09_CheckAll.f k t278).bind fun t281 => (if t277 = t281 then (cotillionlaw09_OrderTexts.j1 k y251 t277 false) else (cotillionlaw09_OrderTexts.j1 k y251 t277 true)))))) = some r := by first | (rw [hy251]; with_reducible exact H) | (have H2_ := (Option.bind_some _ _).symm.trans H; rw [hy251]; with_reducible exact H2_) | (have H2_ := (Option.bind_some _ _).symm.trans H; with_reducible exact H2_) | with_reducible exact H | (rw [hy251]; exact H) | exact H
        have Ny251 := Aside0.mk hy251
        clear hy251
        by_cases c7 : a1 = true
        · subst c7
          have H1 : ((cotillionlaw09_Tidy.f k y251).bind fun t255 => ((order_Batch_Check.f k t255).bind fun t258 => ((cotillionlaw09_Told.f k t255).bind fun t259 => ((cotillionref09_CheckAll.f k t259).bind fun t262 => (if t258 = t262 then (cotillionlaw09_OrderTexts.j0 k t255 t258 (t258 != 0)) else (cotillionlaw09_OrderTexts.j0 k t255 t258 true)))))) = some r := by rw [if_pos rfl] at H; exact H
          clear H
          have H := H1
          clear H1
          replace H := Option.bind_eq_some_iff.mp H
          obtain ⟨t255, A80, H⟩ := H
          replace H : ((order_Batch_Check.f k t255).bind fun t258 => ((cotillionlaw09_Told.f k t255).bind fun t259 => ((cotillionref09_CheckAll.f k t259).bind fun t262 => (if t258 = t262 then (cotillionlaw09_OrderTexts.j0 k t255 t258 (t258 != 0)) else (cotillionlaw09_OrderTexts.j0 k t255 t258 true))))) = some r := H
          have A8 := Aside0.mk A80
          clear A80
          replace H := Option.bind_eq_some_iff.mp H
          obtain ⟨t258, A90, H⟩ := H
          replace H : ((cotillionlaw09_Told.f k t255).bind fun t259 => ((cotillionref09_CheckAll.f k t259).bind fun t262 => (if t258 = t262 then (cotillionlaw09_OrderTexts.j0 k t255 t258 (t258 != 0)) else (cotillionlaw09_OrderTexts.j0 k t255 t258 true)))) = some r := H
          have A9 := Aside0.mk A90
          clear A90
          have HC10 := Aside0.mk H
          clear H
          go_enter Try.func8, Try.ntmps8
          go_upto_region 9 with (first | ((with_reducible refine gate_callee (f := 21) rfl ?_); refine goesL_ (some 9) rfl rfl Try.func21 (by kernel_rfl) rfl #[] rfl (by (try simp only [List.map_toArray, List.map_cons, List.map_nil]); first | done | rfl | (simp only [List.length_drop, List.length_take]; rfl)) ?_; (with_reducible refine (cotillionlaw09_awake.calls k  true _ A3.out).mono ?_); rintro e w11 ⟨rfl, hb⟩; refine ⟨_, rfl, ?_⟩; have n0_ := Aside0.mk (below_step (by repeat (first | (with_reducible first | exact HB.out | apply below_alloc | apply pw_below_drewN | apply below_drew1) | exact HB.out)) hb); clear HB; have HB := n0_; clear n0_; (try clear hb); (try clear hb2); (try clear hk); (try clear hi); have q12 : (10 : Int) ≤ ((l0.length : Int) : Int) := of_decide_eq_true (by first | (with_reducible assumption) | assumption); obtain ⟨i012, hi012, _, hsz12, _⟩ := info_parts info44; have hroom12 : l0.length ≤ c0 := HC0.out; have hC12 : Kd.C k44 _ A0 l0.length l0 := HR0.out; have hcut12 := cut_to (P := Try.prog) 40 44 .i64 Try.underlying40 hi012 A0 l0.length c0 10 (by omega) q12 hroom12; have hr12 := Kd.C_take (m := 10) hC12 (by omega); have hy12 : y251.length = (10 : Int).toNat := (by rw [Ny251.out, List.length_take]; omega); rw [← Ny251.out] at hr12; rw [← hy12] at hcut12; have HR254 := Aside0.mk hr12; have HC254 := Aside0.mk (show y251.length ≤ c0 from by omega); clear hr12 hC12 hroom12 hi012 hsz12; have KY12 := Aside0.mk hy12; clear hy12; replace q12 := eq_true q12) | ((with_reducible refine gate_callee (f := 22) rfl ?_); refine goesL_ (some 19) rfl rfl Try.func22 (by kernel_rfl) rfl #[.slice A0 y251.length c0] rfl (by (try simp only [List.map_toArray, List.map_cons, List.map_nil]); first | done | rfl | (simp only [List.length_drop, List.length_take]; rfl)) ?_; (with_reducible refine (cotillionlaw09_Tidy.calls k _ _ y251 t255 _ ?side1 ?side2 A8.out).mono ?_); (case side1 => repeat (first | exact (Kd.C_below HR254.out HB.out) | (with_reducible refine Kd.C_alloc ?_ _) | (with_reducible refine Kd.C_drewN ?_ _) | (with_reducible refine Kd.C_drew ?_))); (case side2 => exact HC254.out); rintro e w13 ⟨v256, rfl, ho0, hb⟩; refine ⟨_, rfl, ?_⟩; have n0_ := Aside0.mk (Kd.R_lower ho0 (below_size (by repeat (first | (with_reducible first | exact HB.out | apply below_alloc | apply pw_below_drewN | apply below_drew1) | exact HB.out)))); have n1_ := Aside0.mk (below_step (by repeat (first | (with_reducible first | exact HB.out | apply below_alloc | apply pw_below_drewN | apply below_drew1) | exact HB.out)) hb); clear HB; have HO257 := n0_; have HB := n1_; clear n0_ n1_; (try clear hb); (try clear hb2); (try clear hk); (try clear hi); (try clear ho0); obtain ⟨Ao14, co14, eo14⟩ := Kd.R_slice HO257.out; subst eo14) | ((with_reducible refine gate_callee (f := 30) rfl ?_); refine goesL_ (some 21) rfl rfl Try.func30 (by kernel_rfl) rfl #[.slice Ao14 t255.length co14] rfl (by (try simp only [List.map_toArray, List.map_cons, List.map_nil]); first | done | rfl | (simp only [List.length_drop, List.length_take]; rfl)) ?_; (with_reducible refine (order_Batch_Check.calls k _ _ t255 t258 _ ?side1 ?side2 A9.out).mono ?_); (case side1 => repeat (first | exact (Kd.R_reads' HO257.out).2.2 | (with_reducible refine Kd.C_alloc ?_ _) | (with_reducible refine Kd.C_drewN ?_ _) | (with_reducible refine Kd.C_drew ?_))); (case side2 => exact (Kd.R_reads' HO257.out).2.1); rintro e w15 ⟨rfl, hb⟩; refine ⟨_, rfl, ?_⟩; have n0_ := Aside0.mk (Kd.R_below (by (with_reducible repeat (first | apply Kd.R_alloc | apply Kd.R_drewN | apply Kd.R_drew)); exact HO257.out) hb); have n1_ := Aside0.mk (below_step (by repeat (first | (with_reducible first | exact HB.out | apply below_alloc | apply pw_below_drewN | apply below_drew1) | exact HB.out)) hb); clear HO257; clear HB; have HO257 := n0_; have HB := n1_; clear n0_ n1_; (try clear hb); (try clear hb2); (try clear hk); (try clear hi)))
          (try simp only [Act.put, List.setIfInBounds_toArray, List.set_cons_zero, List.set_cons_succ])
          go_cut [33] (fun v33 wc => ∃ (kq : Nat) (x33_9 : Bool), v33 = .bool x33_9 ∧ Aside0 (cotillionlaw09_OrderTexts.j0 kq t255 t258 x33_9 = some r) ∧ Aside0 (kq ≤ k) ∧ Aside0 (Kd.R k44 44 wc w.heap.size (fun _ => True) (.slice Ao14 t255.length co14) t255) ∧ Aside0 (Below w.heap.size w wc))
          case first =>
            have H := HC10.out
            clear HC10
            replace H := Option.bind_eq_some_iff.mp H
            obtain ⟨t259, A160, H⟩ := H
            replace H : ((cotillionref09_CheckAll.f k t259).bind fun t262 => (if t258 = t262 then (cotillionlaw09_OrderTexts.j0 k t255 t258 (t258 != 0)) else (cotillionlaw09_OrderTexts.j0 k t255 t258 true))) = some r := H
            have A16 := Aside0.mk A160
            clear A160
            replace H := Option.bind_eq_some_iff.mp H
            obtain ⟨t262, A170, H⟩ := H
            replace H : (if t258 = t262 then (cotillionlaw09_OrderTexts.j0 k t255 t258 (t258 != 0)) else (cotillionlaw09_OrderTexts.j0 k t255 t258 true)) = some r := H
            have A17 := Aside0.mk A170
            clear A170
            by_cases c18 : t258 = t262
            · rw [if_pos c18] at H
              have c18b0 : (t258 == t262) = true := beq_iff_eq.mpr c18
              have c18b1 : (t258 != t262) = false := bne_eq_false_iff_eq.mpr c18
              clear c18
              (first | rw [c18b0] | (simp only [i64_w, i32_w]; rw [c18b0]) | skip)
              have H' := Aside0.mk H
              clear H
              go_wp2_with (first | ((with_reducible refine gate_callee (f := 25) rfl ?_); refine goesL_ (some 24) rfl rfl Try.func25 (by kernel_rfl) rfl #[.slice Ao14 t255.length co14] rfl (by (try simp only [List.map_toArray, List.map_cons, List.map_nil]); first | done | rfl | (simp only [List.length_drop, List.length_take]; rfl)) ?_; (with_reducible refine (cotillionlaw09_Told.calls k _ _ t255 t259 _ ?side1 ?side2 A16.out).mono ?_); (case side1 => repeat (first | exact (Kd.R_reads' HO257.out).2.2 | (with_reducible refine Kd.C_alloc ?_ _) | (with_reducible refine Kd.C_drewN ?_ _) | (with_reducible refine Kd.C_drew ?_))); (case side2 => exact (Kd.R_reads' HO257.out).2.1); rintro e w19 ⟨v260, rfl, ho0, hb⟩; refine ⟨_, rfl, ?_⟩; have n0_ := Aside0.mk (Kd.R_below (by (with_reducible repeat (first | apply Kd.R_alloc | apply Kd.R_drewN | apply Kd.R_drew)); exact HO257.out) hb); have n1_ := Aside0.mk (Kd.R_lower ho0 (below_size (by repeat (first | (with_reducible first | exact HB.out | apply below_alloc | apply pw_below_drewN | apply below_drew1) | exact HB.out)))); have n2_ := Aside0.mk (below_step (by repeat (first | (with_reducible first | exact HB.out | apply below_alloc | apply pw_below_drewN | apply below_drew1) | exact HB.out)) hb); clear HO257; clear HB; have HO257 := n0_; have HO261 := n1_; have HB := n2_; clear n0_ n1_ n2_; (try clear hb); (try clear hb2); (try clear hk); (try clear hi); (try clear ho0); obtain ⟨Ao20, co20, eo20⟩ := Kd.R_slice HO261.out; subst eo20) | ((with_reducible refine gate_callee (f := 31) rfl ?_); refine goesL_ (some 25) rfl rfl Try.func31 (by kernel_rfl) rfl #[.slice Ao20 t259.length co20] rfl (by (try simp only [List.map_toArray, List.map_cons, List.map_nil]); first | done | rfl | (simp only [List.length_drop, List.length_take]; rfl)) ?_; (with_reducible refine (cotillionref09_CheckAll.calls k _ _ t259 t262 _ ?side1 ?side2 A17.out).mono ?_); (case side1 => repeat (first | exact (Kd.R_reads' HO261.out).2.2 | (with_reducible refine Kd.C_alloc ?_ _) | (with_reducible refine Kd.C_drewN ?_ _) | (with_reducible refine Kd.C_drew ?_))); (case side2 => exact (Kd.R_reads' HO261.out).2.1); rintro e w21 ⟨rfl, hb⟩; refine ⟨_, rfl, ?_⟩; have n0_ := Aside0.mk (Kd.R_below (by (with_reducible repeat (first | apply Kd.R_alloc | apply Kd.R_drewN | apply Kd.R_drew)); exact HO257.out) hb); have n1_ := Aside0.mk (Kd.R_below (by (with_reducible repeat (first | apply Kd.R_alloc | apply Kd.R_drewN | apply Kd.R_drew)); exact HO261.out) hb); have n2_ := Aside0.mk (below_step (by repeat (first | (with_reducible first | exact HB.out | apply below_alloc | apply pw_below_drewN | apply below_drew1) | exact HB.out)) hb); clear HO257; clear HO261; clear HB; have HO257 := n0_; have HO261 := n1_; have HB := n2_; clear n0_ n1_ n2_; (try clear hb); (try clear hb2); (try clear hk); (try clear hi)))
              go_meet
              case rel => exact ⟨_, ((t258 != 0)), (by first | rfl | (simp; done) | (simp [*]; done)), H', ⟨by first | omega | exact Nat.le_refl _⟩, ⟨by (with_reducible repeat (first | apply Kd.R_alloc | apply Kd.R_drewN | apply Kd.R_drew)); exact HO257.out⟩, ⟨by repeat (first | (with_reducible first | exact HB.out | apply below_alloc | apply pw_below_drewN | apply below_drew1) | exact HB.out)⟩⟩
            · rw [if_neg c18] at H
              have c18b0 : (t258 == t262) = false := beq_eq_false_iff_ne.mpr c18
              have c18b1 : (t258 != t262) = true := bne_iff_ne.mpr c18
              (first | rw [c18b0] | (simp only [i64_w, i32_w]; rw [c18b0]) | skip)
              have H' := Aside0.mk H
              clear H
              go_wp2_with (first | ((with_reducible refine gate_callee (f := 25) rfl ?_); refine goesL_ (some 24) rfl rfl Try.func25 (by kernel_rfl) rfl #[.slice Ao14 t255.length co14] rfl (by (try simp only [List.map_toArray, List.map_cons, List.map_nil]); first | done | rfl | (simp only [List.length_drop, List.length_take]; rfl)) ?_; (with_reducible refine (cotillionlaw09_Told.calls k _ _ t255 t259 _ ?side1 ?side2 A16.out).mono ?_); (case side1 => repeat (first | exact (Kd.R_reads' HO257.out).2.2 | (with_reducible refine Kd.C_alloc ?_ _) | (with_reducible refine Kd.C_drewN ?_ _) | (with_reducible refine Kd.C_drew ?_))); (case side2 => exact (Kd.R_reads' HO257.out).2.1); rintro e w22 ⟨v260, rfl, ho0, hb⟩; refine ⟨_, rfl, ?_⟩; have n0_ := Aside0.mk (Kd.R_below (by (with_reducible repeat (first | apply Kd.R_alloc | apply Kd.R_drewN | apply Kd.R_drew)); exact HO257.out) hb); have n1_ := Aside0.mk (Kd.R_lower ho0 (below_size (by repeat (first | (with_reducible first | exact HB.out | apply below_alloc | apply pw_below_drewN | apply below_drew1) | exact HB.out)))); have n2_ := Aside0.mk (below_step (by repeat (first | (with_reducible first | exact HB.out | apply below_alloc | apply pw_below_drewN | apply below_drew1) | exact HB.out)) hb); clear HO257; clear HB; have HO257 := n0_; have HO261 := n1_; have HB := n2_; clear n0_ n1_ n2_; (try clear hb); (try clear hb2); (try clear hk); (try clear hi); (try clear ho0); obtain ⟨Ao23, co23, eo23⟩ := Kd.R_slice HO261.out; subst eo23) | ((with_reducible refine gate_callee (f := 31) rfl ?_); refine goesL_ (some 25) rfl rfl Try.func31 (by kernel_rfl) rfl #[.slice Ao23 t259.length co23] rfl (by (try simp only [List.map_toArray, List.map_cons, List.map_nil]); first | done | rfl | (simp only [List.length_drop, List.length_take]; rfl)) ?_; (with_reducible refine (cotillionref09_CheckAll.calls k _ _ t259 t262 _ ?side1 ?side2 A17.out).mono ?_); (case side1 => repeat (first | exact (Kd.R_reads' HO261.out).2.2 | (with_reducible refine Kd.C_alloc ?_ _) | (with_reducible refine Kd.C_drewN ?_ _) | (with_reducible refine Kd.C_drew ?_))); (case side2 => exact (Kd.R_reads' HO261.out).2.1); rintro e w24 ⟨rfl, hb⟩; refine ⟨_, rfl, ?_⟩; have n0_ := Aside0.mk (Kd.R_below (by (with_reducible repeat (first | apply Kd.R_alloc | apply Kd.R_drewN | apply Kd.R_drew)); exact HO257.out) hb); have n1_ := Aside0.mk (Kd.R_below (by (with_reducible repeat (first | apply Kd.R_alloc | apply Kd.R_drewN | apply Kd.R_drew)); exact HO261.out) hb); have n2_ := Aside0.mk (below_step (by repeat (first | (with_reducible first | exact HB.out | apply below_alloc | apply pw_below_drewN | apply below_drew1) | exact HB.out)) hb); clear HO257; clear HO261; clear HB; have HO257 := n0_; have HO261 := n1_; have HB := n2_; clear n0_ n1_ n2_; (try clear hb); (try clear hb2); (try clear hk); (try clear hi)))
              go_meet
              case rel => exact ⟨_, (true), (by first | rfl | (simp; done) | (simp [*]; done)), H', ⟨by first | omega | exact Nat.le_refl _⟩, ⟨by (with_reducible repeat (first | apply Kd.R_alloc | apply Kd.R_drewN | apply Kd.R_drew)); exact HO257.out⟩, ⟨by repeat (first | (with_reducible first | exact HB.out | apply below_alloc | apply pw_below_drewN | apply below_drew1) | exact HB.out)⟩⟩
          case rest =>
            clear HC10
            try clear c1
            try clear q1
            try clear c2
            try clear p2
            try clear c3
            try clear c4
            try clear c5
            try clear c5b0
            try clear c5b1
            try clear c6
            try clear c6b0
            try clear c6b1
            try clear c7
            try clear c8
            try clear q12
            try clear c18
            try clear c18b0
            try clear c18b1
            try clear c21
            try clear c22
            try clear q12
            obtain ⟨kq, x33_9, rfl, HA, HJ9, HO_5, HB⟩ := hcut
            cases kq with
            | zero => exact absurd HA.out (by simp [cotillionlaw09_OrderTexts.j0])
            | succ kj9 =>
              have H := HA.out
              clear HA
              simp only [cotillionlaw09_OrderTexts.j0] at H
              by_cases c25 : x33_9 = true
              · subst c25
                have H1 : (some false) = some r := by rw [if_pos rfl] at H; exact H
                clear H
                have H := H1
                clear H1
                obtain rfl := Option.some.inj H
                exact absurd ht_ (by decide)
              · replace c25 := Bool.eq_false_iff.mpr c25
                subst c25
                have H1 : (if t258 = 0 then ((order_Batch_Text.f t255).bind fun t263 => ((order_Parse.f kj9 t263).bind fun bt264 => ((order_Batch_Text.f t255).bind fun t268 => ((cotillionlaw09_Told.f kj9 t255).bind fun t269 => ((cotillionref09_Text.f kj9 t269).bind fun t272 => (if t268.toList = t272.toList then (if bt264.2 = 0 then ((cotillionlaw09_Told.f kj9 t255).bind fun t273 => ((cotillionlaw09_Same.f kj9 bt264.1 t273).bind fun t276 => (some (t276 == 0)))) else (some false)) else (some false))))))) else (some true)) = some r := by rw [if_neg (show ¬ (false = true) by decide)] at H; exact H
                clear H
                have H := H1
                clear H1
                by_cases c26 : t258 = 0
                · rw [if_pos c26] at H
                  have c26b0 : (t258 == 0) = true := beq_iff_eq.mpr c26
                  have c26b1 : (t258 != 0) = false := bne_eq_false_iff_eq.mpr c26
                  clear c26
                  replace H := Option.bind_eq_some_iff.mp H
                  obtain ⟨t263, A270, H⟩ := H
                  replace H : ((order_Parse.f kj9 t263).bind fun bt264 => ((order_Batch_Text.f t255).bind fun t268 => ((cotillionlaw09_Told.f kj9 t255).bind fun t269 => ((cotillionref09_Text.f kj9 t269).bind fun t272 => (if t268.toList = t272.toList then (if bt264.2 = 0 then ((cotillionlaw09_Told.f kj9 t255).bind fun t273 => ((cotillionlaw09_Same.f kj9 bt264.1 t273).bind fun t276 => (some (t276 == 0)))) else (some false)) else (some false)))))) = some r := H
                  have A27 := Aside0.mk A270
                  clear A270
                  replace H := Option.bind_eq_some_iff.mp H
                  obtain ⟨⟨t264, t265⟩, A280, H⟩ := H
                  replace H : ((order_Batch_Text.f t255).bind fun t268 => ((cotillionlaw09_Told.f kj9 t255).bind fun t269 => ((cotillionref09_Text.f kj9 t269).bind fun t272 => (if t268.toList = t272.toList then (if t265 = 0 then ((cotillionlaw09_Told.f kj9 t255).bind fun t273 => ((cotillionlaw09_Same.f kj9 t264 t273).bind fun t276 => (some (t276 == 0)))) else (some false)) else (some false))))) = some r := H
                  have A28 := Aside0.mk A280
                  clear A280
                  replace H := Option.bind_eq_some_iff.mp H
                  obtain ⟨t268, A290, H⟩ := H
                  replace H : ((cotillionlaw09_Told.f kj9 t255).bind fun t269 => ((cotillionref09_Text.f kj9 t269).bind fun t272 => (if t268.toList = t272.toList then (if t265 = 0 then ((cotillionlaw09_Told.f kj9 t255).bind fun t273 => ((cotillionlaw09_Same.f kj9 t264 t273).bind fun t276 => (some (t276 == 0)))) else (some false)) else (some false)))) = some r := H
                  have A29 := Aside0.mk A290
                  clear A290
                  replace H := Option.bind_eq_some_iff.mp H
                  obtain ⟨t269, A300, H⟩ := H
                  replace H : ((cotillionref09_Text.f kj9 t269).bind fun t272 => (if t268.toList = t272.toList then (if t265 = 0 then ((cotillionlaw09_Told.f kj9 t255).bind fun t273 => ((cotillionlaw09_Same.f kj9 t264 t273).bind fun t276 => (some (t276 == 0)))) else (some false)) else (some false))) = some r := H
                  have A30 := Aside0.mk A300
                  clear A300
                  replace H := Option.bind_eq_some_iff.mp H
                  obtain ⟨t272, A310, H⟩ := H
                  replace H : (if t268.toList = t272.toList then (if t265 = 0 then ((cotillionlaw09_Told.f kj9 t255).bind fun t273 => ((cotillionlaw09_Same.f kj9 t264 t273).bind fun t276 => (some (t276 == 0)))) else (some false)) else (some false)) = some r := H
                  have A31 := Aside0.mk A310
                  clear A310
                  by_cases c32 : t268.toList = t272.toList
                  · rw [if_pos c32] at H
                    have c32b0 : (t268.toList == t272.toList) = true := beq_iff_eq.mpr c32
                    have c32b1 : (t268.toList != t272.toList) = false := bne_eq_false_iff_eq.mpr c32
                    clear c32
                    by_cases c33 : t265 = 0
                    · rw [if_pos c33] at H
                      have c33b0 : (t265 == 0) = true := beq_iff_eq.mpr c33
                      have c33b1 : (t265 != 0) = false := bne_eq_false_iff_eq.mpr c33
                      clear c33
                      replace H := Option.bind_eq_some_iff.mp H
                      obtain ⟨t273, A340, H⟩ := H
                      replace H : ((cotillionlaw09_Same.f kj9 t264 t273).bind fun t276 => (some (t276 == 0))) = some r := H
                      have A34 := Aside0.mk A340
                      clear A340
                      replace H := Option.bind_eq_some_iff.mp H
                      obtain ⟨t276, A350, H⟩ := H
                      replace H : (some (t276 == 0)) = some r := H
                      have A35 := Aside0.mk A350
                      clear A350
                      obtain rfl := Option.some.inj H
                      clear ht_
                      go_wp2_with (first | ((with_reducible refine gate_callee (f := 23) rfl ?_); refine goesL_ (some 38) rfl rfl Try.func23 (by kernel_rfl) rfl #[.slice Ao14 t255.length co14] rfl (by (try simp only [List.map_toArray, List.map_cons, List.map_nil]); first | done | rfl | (simp only [List.length_drop, List.length_take]; rfl)) ?_; (with_reducible refine (order_Batch_Text.calls _ _ t255 t263 _ ?side1 ?side2 A27.out).mono ?_); (case side1 => repeat (first | exact (Kd.R_reads' HO_5.out).2.2 | (with_reducible refine Kd.C_alloc ?_ _) | (with_reducible refine Kd.C_drewN ?_ _) | (with_reducible refine Kd.C_drew ?_))); (case side2 => exact (Kd.R_reads' HO_5.out).2.1); rintro e w36 ⟨rfl, hb⟩; refine ⟨_, rfl, ?_⟩; have n0_ := Aside0.mk (Kd.R_below (by (with_reducible repeat (first | apply Kd.R_alloc | apply Kd.R_drewN | apply Kd.R_drew)); exact HO_5.out) hb); have n1_ := Aside0.mk (below_step (by repeat (first | (with_reducible first | exact HB.out | apply below_alloc | apply pw_below_drewN | apply below_drew1) | exact HB.out)) hb); clear HO_5; clear HB; have HO_5 := n0_; have HB := n1_; clear n0_ n1_; (try clear hb); (try clear hb2); (try clear hk); (try clear hi)) | ((with_reducible refine gate_callee (f := 26) rfl ?_); refine goesL_ (some 39) rfl rfl Try.func26 (by kernel_rfl) rfl #[.string t263] rfl (by (try simp only [List.map_toArray, List.map_cons, List.map_nil]); first | done | rfl | (simp only [List.length_drop, List.length_take]; rfl)) ?_; (with_reducible refine (order_Parse.calls kj9 t263 t264 t265 _ A28.out).mono ?_); rintro e w37 ⟨v266, rfl, ho0, hb⟩; refine ⟨_, rfl, ?_⟩; have n0_ := Aside0.mk (Kd.R_elder' (by (with_reducible repeat (first | apply Kd.R_alloc | apply Kd.R_drewN | apply Kd.R_drew)); exact HO_5.out) (Kd.R_base ho0) hb); have n1_ := Aside0.mk (Kd.R_lower (Kd.R_new' ho0 (Kd.R_lt (by (with_reducible repeat (first | apply Kd.R_alloc | apply Kd.R_drewN | apply Kd.R_drew)); exact HO_5.out))) (below_size (by repeat (first | (with_reducible first | exact HB.out | apply below_alloc | apply pw_below_drewN | apply below_drew1) | exact HB.out)))); have n2_ := Aside0.mk (below_step (by repeat (first | (with_reducible first | exact HB.out | apply below_alloc | apply pw_below_drewN | apply below_drew1) | exact HB.out)) hb); clear HO_5; clear HB; have HO_5 := n0_; have HO267 := n1_; have HB := n2_; clear n0_ n1_ n2_; (try clear hb); (try clear hb2); (try clear hk); (try clear hi); (try clear ho0)) | ((with_reducible refine gate_callee (f := 23) rfl ?_); refine goesL_ (some 43) rfl rfl Try.func23 (by kernel_rfl) rfl #[.slice Ao14 t255.length co14] rfl (by (try simp only [List.map_toArray, List.map_cons, List.map_nil]); first | done | rfl | (simp only [List.length_drop, List.length_take]; rfl)) ?_; (with_reducible refine (order_Batch_Text.calls _ _ t255 t268 _ ?side1 ?side2 A29.out).mono ?_); (case side1 => repeat (first | exact (Kd.R_reads' HO_5.out).2.2 | (with_reducible refine Kd.C_alloc ?_ _) | (with_reducible refine Kd.C_drewN ?_ _) | (with_reducible refine Kd.C_drew ?_))); (case side2 => exact (Kd.R_reads' HO_5.out).2.1); rintro e w38 ⟨rfl, hb⟩; refine ⟨_, rfl, ?_⟩; have n0_ := Aside0.mk (Kd.R_below (by (with_reducible repeat (first | apply Kd.R_alloc | apply Kd.R_drewN | apply Kd.R_drew)); exact HO_5.out) hb); have n1_ := Aside0.mk (Kd.R_below (by (with_reducible repeat (first | apply Kd.R_alloc | apply Kd.R_drewN | apply Kd.R_drew)); exact HO267.out) hb); have n2_ := Aside0.mk (below_step (by repeat (first | (with_reducible first | exact HB.out | apply below_alloc | apply pw_below_drewN | apply below_drew1) | exact HB.out)) hb); clear HO_5; clear HO267; clear HB; have HO_5 := n0_; have HO267 := n1_; have HB := n2_; clear n0_ n1_ n2_; (try clear hb); (try clear hb2); (try clear hk); (try clear hi)) | ((with_reducible refine gate_callee (f := 25) rfl ?_); refine goesL_ (some 45) rfl rfl Try.func25 (by kernel_rfl) rfl #[.slice Ao14 t255.length co14] rfl (by (try simp only [List.map_toArray, List.map_cons, List.map_nil]); first | done | rfl | (simp only [List.length_drop, List.length_take]; rfl)) ?_; (with_reducible refine (cotillionlaw09_Told.calls kj9 _ _ t255 t269 _ ?side1 ?side2 A30.out).mono ?_); (case side1 => repeat (first | exact (Kd.R_reads' HO_5.out).2.2 | (with_reducible refine Kd.C_alloc ?_ _) | (with_reducible refine Kd.C_drewN ?_ _) | (with_reducible refine Kd.C_drew ?_))); (case side2 => exact (Kd.R_reads' HO_5.out).2.1); rintro e w39 ⟨v270, rfl, ho0, hb⟩; refine ⟨_, rfl, ?_⟩; have n0_ := Aside0.mk (Kd.R_below (by (with_reducible repeat (first | apply Kd.R_alloc | apply Kd.R_drewN | apply Kd.R_drew)); exact HO_5.out) hb); have n1_ := Aside0.mk (Kd.R_below (by (with_reducible repeat (first | apply Kd.R_alloc | apply Kd.R_drewN | apply Kd.R_drew)); exact HO267.out) hb); have n2_ := Aside0.mk (Kd.R_lower ho0 (below_size (by repeat (first | (with_reducible first | exact HB.out | apply below_alloc | apply pw_below_drewN | apply below_drew1) | exact HB.out)))); have n3_ := Aside0.mk (below_step (by repeat (first | (with_reducible first | exact HB.out | apply below_alloc | apply pw_below_drewN | apply below_drew1) | exact HB.out)) hb); clear HO_5; clear HO267; clear HB; have HO_5 := n0_; have HO267 := n1_; have HO271 := n2_; have HB := n3_; clear n0_ n1_ n2_ n3_; (try clear hb); (try clear hb2); (try clear hk); (try clear hi); (try clear ho0); obtain ⟨Ao40, co40, eo40⟩ := Kd.R_slice HO271.out; subst eo40) | ((with_reducible refine gate_callee (f := 32) rfl ?_); refine goesL_ (some 46) rfl rfl Try.func32 (by kernel_rfl) rfl #[.slice Ao40 t269.length co40] rfl (by (try simp only [List.map_toArray, List.map_cons, List.map_nil]); first | done | rfl | (simp only [List.length_drop, List.length_take]; rfl)) ?_; (with_reducible refine (cotillionref09_Text.calls kj9 _ _ t269 t272 _ ?side1 ?side2 A31.out).mono ?_); (case side1 => repeat (first | exact (Kd.R_reads' HO271.out).2.2 | (with_reducible refine Kd.C_alloc ?_ _) | (with_reducible refine Kd.C_drewN ?_ _) | (with_reducible refine Kd.C_drew ?_))); (case side2 => exact (Kd.R_reads' HO271.out).2.1); rintro e w41 ⟨rfl, hb⟩; refine ⟨_, rfl, ?_⟩; have n0_ := Aside0.mk (Kd.R_below (by (with_reducible repeat (first | apply Kd.R_alloc | apply Kd.R_drewN | apply Kd.R_drew)); exact HO_5.out) hb); have n1_ := Aside0.mk (Kd.R_below (by (with_reducible repeat (first | apply Kd.R_alloc | apply Kd.R_drewN | apply Kd.R_drew)); exact HO267.out) hb); have n2_ := Aside0.mk (Kd.R_below (by (with_reducible repeat (first | apply Kd.R_alloc | apply Kd.R_drewN | apply Kd.R_drew)); exact HO271.out) hb); have n3_ := Aside0.mk (below_step (by repeat (first | (with_reducible first | exact HB.out | apply below_alloc | apply pw_below_drewN | apply below_drew1) | exact HB.out)) hb); clear HO_5; clear HO267; clear HO271; clear HB; have HO_5 := n0_; have HO267 := n1_; have HO271 := n2_; have HB := n3_; clear n0_ n1_ n2_ n3_; (try clear hb); (try clear hb2); (try clear hk); (try clear hi)) | (go_at_call 25; (with_reducible refine (cotillionlaw09_Told.calls kj9 _ _ t255 t273 _ ?side1 ?side2 A34.out).mono ?_); (case side1 => repeat (first | exact (Kd.R_reads' HO_5.out).2.2 | (with_reducible refine Kd.C_alloc ?_ _) | (with_reducible refine Kd.C_drewN ?_ _) | (with_reducible refine Kd.C_drew ?_))); (case side2 => exact (Kd.R_reads' HO_5.out).2.1); rintro e w42 ⟨v274, rfl, ho0, hb⟩; have n0_ := Aside0.mk (Kd.R_below (by (with_reducible repeat (first | apply Kd.R_alloc | apply Kd.R_drewN | apply Kd.R_drew)); exact HO_5.out) hb); have n1_ := Aside0.mk (Kd.R_below (by (with_reducible repeat (first | apply Kd.R_alloc | apply Kd.R_drewN | apply Kd.R_drew)); exact HO267.out) hb); have n2_ := Aside0.mk (Kd.R_elder' (by (with_reducible repeat (first | apply Kd.R_alloc | apply Kd.R_drewN | apply Kd.R_drew)); exact HO271.out) (Kd.R_base ho0) hb); have n3_ := Aside0.mk (Kd.R_lower (Kd.R_new' ho0 (Kd.R_lt (by (with_reducible repeat (first | apply Kd.R_alloc | apply Kd.R_drewN | apply Kd.R_drew)); exact HO271.out))) (below_size (by repeat (first | (with_reducible first | exact HB.out | apply below_alloc | apply pw_below_drewN | apply below_drew1) | exact HB.out)))); have n4_ := Aside0.mk (below_step (by repeat (first | (with_reducible first | exact HB.out | apply below_alloc | apply pw_below_drewN | apply below_drew1) | exact HB.out)) hb); clear HO_5; clear HO267; clear HO271; clear HB; have HO_5 := n0_; have HO267 := n1_; have HO271 := n2_; have HO275 := n3_; have HB := n4_; clear n0_ n1_ n2_ n3_ n4_; (try clear hb); (try clear hb2); (try clear hk); (try clear hi); (try clear ho0); obtain ⟨Ao43, co43, eo43⟩ := Kd.R_slice HO267.out; subst eo43; obtain ⟨Ao44, co44, eo44⟩ := Kd.R_slice HO275.out; subst eo44) | (go_at_call 24; (with_reducible refine (cotillionlaw09_Same.calls kj9 _ _ t264 _ _ t273 t276 _ ?side1 ?side2 ?side3 ?side4 A35.out).mono ?_); (case side1 => repeat (first | exact (Kd.R_reads' HO267.out).2.2 | (with_reducible refine Kd.C_alloc ?_ _) | (with_reducible refine Kd.C_drewN ?_ _) | (with_reducible refine Kd.C_drew ?_))); (case side2 => exact (Kd.R_reads' HO267.out).2.1); (case side3 => repeat (first | exact (Kd.R_reads' HO275.out).2.2 | (with_reducible refine Kd.C_alloc ?_ _) | (with_reducible refine Kd.C_drewN ?_ _) | (with_reducible refine Kd.C_drew ?_))); (case side4 => exact (Kd.R_reads' HO275.out).2.1); rintro e w' ⟨rfl, ⟨nd, rfl⟩⟩))
                      go_ret
                      exact ⟨by first | rfl | (simp [errW_none, errW_some] <;> rfl) | (simp [*, errW_none, errW_some] <;> rfl), by repeat (first | (with_reducible first | exact HB.out | apply below_alloc | apply pw_below_drewN | apply below_drew1) | exact HB.out)⟩
                    · rw [if_neg c33] at H
                      have c33b0 : (t265 == 0) = false := beq_eq_false_iff_ne.mpr c33
                      have c33b1 : (t265 != 0) = true := bne_iff_ne.mpr c33
                      obtain rfl := Option.some.inj H
                      exact absurd ht_ (by decide)
                  · rw [if_neg c32] at H
                    have c32b0 : (t268.toList == t272.toList) = false := beq_eq_false_iff_ne.mpr c32
                    have c32b1 : (t268.toList != t272.toList) = true := bne_iff_ne.mpr c32
                    obtain rfl := Option.some.inj H
                    exact absurd ht_ (by decide)
                · rw [if_neg c26] at H
                  have c26b0 : (t258 == 0) = false := beq_eq_false_iff_ne.mpr c26
                  have c26b1 : (t258 != 0) = true := bne_iff_ne.mpr c26
                  obtain rfl := Option.some.inj H
                  clear ht_
                  go_wp2
                  go_ret
                  exact ⟨by first | rfl | (simp [errW_none, errW_some] <;> rfl) | (simp [*, errW_none, errW_some] <;> rfl), by repeat (first | (with_reducible first | exact HB.out | apply below_alloc | apply pw_below_drewN | apply below_drew1) | exact HB.out)⟩
        · replace c7 := Bool.eq_false_iff.mpr c7
          subst c7
          have H1 : ((order_Batch_Check.f k y251).bind fun t277 => ((cotillionlaw09_Told.f k y251).bind fun t278 => ((cotillionref09_CheckAll.f k t278).bind fun t281 => (if t277 = t281 then (cotillionlaw09_OrderTexts.j1 k y251 t277 false) else (cotillionlaw09_OrderTexts.j1 k y251 t277 true))))) = some r := by rw [if_neg (show ¬ (false = true) by decide)] at H; exact H
          clear H
          have H := H1
          clear H1
          replace H := Option.bind_eq_some_iff.mp H
          obtain ⟨t277, A450, H⟩ := H
          replace H : ((cotillionlaw09_Told.f k y251).bind fun t278 => ((cotillionref09_CheckAll.f k t278).bind fun t281 => (if t277 = t281 then (cotillionlaw09_OrderTexts.j1 k y251 t277 false) else (cotillionlaw09_OrderTexts.j1 k y251 t277 true)))) = some r := H
          have A45 := Aside0.mk A450
          clear A450
          have HC46 := Aside0.mk H
          clear H
          go_enter Try.func8, Try.ntmps8
          go_upto_region 9 with (first | ((with_reducible refine gate_callee (f := 21) rfl ?_); refine goesL_ (some 9) rfl rfl Try.func21 (by kernel_rfl) rfl #[] rfl (by (try simp only [List.map_toArray, List.map_cons, List.map_nil]); first | done | rfl | (simp only [List.length_drop, List.length_take]; rfl)) ?_; (with_reducible refine (cotillionlaw09_awake.calls k  true _ A3.out).mono ?_); rintro e w47 ⟨rfl, hb⟩; refine ⟨_, rfl, ?_⟩; have n0_ := Aside0.mk (below_step (by repeat (first | (with_reducible first | exact HB.out | apply below_alloc | apply pw_below_drewN | apply below_drew1) | exact HB.out)) hb); clear HB; have HB := n0_; clear n0_; (try clear hb); (try clear hb2); (try clear hk); (try clear hi); have q48 : (10 : Int) ≤ ((l0.length : Int) : Int) := of_decide_eq_true (by first | (with_reducible assumption) | assumption); obtain ⟨i048, hi048, _, hsz48, _⟩ := info_parts info44; have hroom48 : l0.length ≤ c0 := HC0.out; have hC48 : Kd.C k44 _ A0 l0.length l0 := HR0.out; have hcut48 := cut_to (P := Try.prog) 40 44 .i64 Try.underlying40 hi048 A0 l0.length c0 10 (by omega) q48 hroom48; have hr48 := Kd.C_take (m := 10) hC48 (by omega); have hy48 : y251.length = (10 : Int).toNat := (by rw [Ny251.out, List.length_take]; omega); rw [← Ny251.out] at hr48; rw [← hy48] at hcut48; have HR254 := Aside0.mk hr48; have HC254 := Aside0.mk (show y251.length ≤ c0 from by omega); clear hr48 hC48 hroom48 hi048 hsz48; have KY48 := Aside0.mk hy48; clear hy48; replace q48 := eq_true q48) | ((with_reducible refine gate_callee (f := 30) rfl ?_); refine goesL_ (some 21) rfl rfl Try.func30 (by kernel_rfl) rfl #[.slice A0 y251.length c0] rfl (by (try simp only [List.map_toArray, List.map_cons, List.map_nil]); first | done | rfl | (simp only [List.length_drop, List.length_take]; rfl)) ?_; (with_reducible refine (order_Batch_Check.calls k _ _ y251 t277 _ ?side1 ?side2 A45.out).mono ?_); (case side1 => repeat (first | exact (Kd.C_below HR254.out HB.out) | (with_reducible refine Kd.C_alloc ?_ _) | (with_reducible refine Kd.C_drewN ?_ _) | (with_reducible refine Kd.C_drew ?_))); (case side2 => exact HC254.out); rintro e w49 ⟨rfl, hb⟩; refine ⟨_, rfl, ?_⟩; have n0_ := Aside0.mk (below_step (by repeat (first | (with_reducible first | exact HB.out | apply below_alloc | apply pw_below_drewN | apply below_drew1) | exact HB.out)) hb); clear HB; have HB := n0_; clear n0_; (try clear hb); (try clear hb2); (try clear hk); (try clear hi)))
          (try simp only [Act.put, List.setIfInBounds_toArray, List.set_cons_zero, List.set_cons_succ])
          go_cut [33] (fun v33 wc => ∃ (kq : Nat) (x33_45 : Bool), v33 = .bool x33_45 ∧ Aside0 (cotillionlaw09_OrderTexts.j1 kq y251 t277 x33_45 = some r) ∧ Aside0 (kq ≤ k) ∧ Aside0 (Below w.heap.size w wc))
          case first =>
            have H := HC46.out
            clear HC46
            replace H := Option.bind_eq_some_iff.mp H
            obtain ⟨t278, A500, H⟩ := H
            replace H : ((cotillionref09_CheckAll.f k t278).bind fun t281 => (if t277 = t281 then (cotillionlaw09_OrderTexts.j1 k y251 t277 false) else (cotillionlaw09_OrderTexts.j1 k y251 t277 true))) = some r := H
            have A50 := Aside0.mk A500
            clear A500
            replace H := Option.bind_eq_some_iff.mp H
            obtain ⟨t281, A510, H⟩ := H
            replace H : (if t277 = t281 then (cotillionlaw09_OrderTexts.j1 k y251 t277 false) else (cotillionlaw09_OrderTexts.j1 k y251 t277 true)) = some r := H
            have A51 := Aside0.mk A510
            clear A510
            by_cases c52 : t277 = t281
            · rw [if_pos c52] at H
              have c52b0 : (t277 == t281) = true := beq_iff_eq.mpr c52
              have c52b1 : (t277 != t281) = false := bne_eq_false_iff_eq.mpr c52
              clear c52
              (first | rw [c52b0] | (simp only [i64_w, i32_w]; rw [c52b0]) | skip)
              have H' := Aside0.mk H
              clear H
              go_wp2_with (first | ((with_reducible refine gate_callee (f := 25) rfl ?_); refine goesL_ (some 24) rfl rfl Try.func25 (by kernel_rfl) rfl #[.slice A0 y251.length c0] rfl (by (try simp only [List.map_toArray, List.map_cons, List.map_nil]); first | done | rfl | (simp only [List.length_drop, List.length_take]; rfl)) ?_; (with_reducible refine (cotillionlaw09_Told.calls k _ _ y251 t278 _ ?side1 ?side2 A50.out).mono ?_); (case side1 => repeat (first | exact (Kd.C_below HR254.out HB.out) | (with_reducible refine Kd.C_alloc ?_ _) | (with_reducible refine Kd.C_drewN ?_ _) | (with_reducible refine Kd.C_drew ?_))); (case side2 => exact HC254.out); rintro e w53 ⟨v279, rfl, ho0, hb⟩; refine ⟨_, rfl, ?_⟩; have n0_ := Aside0.mk (Kd.R_lower ho0 (below_size (by repeat (first | (with_reducible first | exact HB.out | apply below_alloc | apply pw_below_drewN | apply below_drew1) | exact HB.out)))); have n1_ := Aside0.mk (below_step (by repeat (first | (with_reducible first | exact HB.out | apply below_alloc | apply pw_below_drewN | apply below_drew1) | exact HB.out)) hb); clear HB; have HO280 := n0_; have HB := n1_; clear n0_ n1_; (try clear hb); (try clear hb2); (try clear hk); (try clear hi); (try clear ho0); obtain ⟨Ao54, co54, eo54⟩ := Kd.R_slice HO280.out; subst eo54) | ((with_reducible refine gate_callee (f := 31) rfl ?_); refine goesL_ (some 25) rfl rfl Try.func31 (by kernel_rfl) rfl #[.slice Ao54 t278.length co54] rfl (by (try simp only [List.map_toArray, List.map_cons, List.map_nil]); first | done | rfl | (simp only [List.length_drop, List.length_take]; rfl)) ?_; (with_reducible refine (cotillionref09_CheckAll.calls k _ _ t278 t281 _ ?side1 ?side2 A51.out).mono ?_); (case side1 => repeat (first | exact (Kd.R_reads' HO280.out).2.2 | (with_reducible refine Kd.C_alloc ?_ _) | (with_reducible refine Kd.C_drewN ?_ _) | (with_reducible refine Kd.C_drew ?_))); (case side2 => exact (Kd.R_reads' HO280.out).2.1); rintro e w55 ⟨rfl, hb⟩; refine ⟨_, rfl, ?_⟩; have n0_ := Aside0.mk (Kd.R_below (by (with_reducible repeat (first | apply Kd.R_alloc | apply Kd.R_drewN | apply Kd.R_drew)); exact HO280.out) hb); have n1_ := Aside0.mk (below_step (by repeat (first | (with_reducible first | exact HB.out | apply below_alloc | apply pw_below_drewN | apply below_drew1) | exact HB.out)) hb); clear HO280; clear HB; have HO280 := n0_; have HB := n1_; clear n0_ n1_; (try clear hb); (try clear hb2); (try clear hk); (try clear hi)))
              go_meet
              case rel => exact ⟨_, (false), (by first | rfl | (simp; done) | (simp [*]; done)), H', ⟨by first | omega | exact Nat.le_refl _⟩, ⟨by repeat (first | (with_reducible first | exact HB.out | apply below_alloc | apply pw_below_drewN | apply below_drew1) | exact HB.out)⟩⟩
            · rw [if_neg c52] at H
              have c52b0 : (t277 == t281) = false := beq_eq_false_iff_ne.mpr c52
              have c52b1 : (t277 != t281) = true := bne_iff_ne.mpr c52
              (first | rw [c52b0] | (simp only [i64_w, i32_w]; rw [c52b0]) | skip)
              have H' := Aside0.mk H
              clear H
              go_wp2_with (first | ((with_reducible refine gate_callee (f := 25) rfl ?_); refine goesL_ (some 24) rfl rfl Try.func25 (by kernel_rfl) rfl #[.slice A0 y251.length c0] rfl (by (try simp only [List.map_toArray, List.map_cons, List.map_nil]); first | done | rfl | (simp only [List.length_drop, List.length_take]; rfl)) ?_; (with_reducible refine (cotillionlaw09_Told.calls k _ _ y251 t278 _ ?side1 ?side2 A50.out).mono ?_); (case side1 => repeat (first | exact (Kd.C_below HR254.out HB.out) | (with_reducible refine Kd.C_alloc ?_ _) | (with_reducible refine Kd.C_drewN ?_ _) | (with_reducible refine Kd.C_drew ?_))); (case side2 => exact HC254.out); rintro e w56 ⟨v279, rfl, ho0, hb⟩; refine ⟨_, rfl, ?_⟩; have n0_ := Aside0.mk (Kd.R_lower ho0 (below_size (by repeat (first | (with_reducible first | exact HB.out | apply below_alloc | apply pw_below_drewN | apply below_drew1) | exact HB.out)))); have n1_ := Aside0.mk (below_step (by repeat (first | (with_reducible first | exact HB.out | apply below_alloc | apply pw_below_drewN | apply below_drew1) | exact HB.out)) hb); clear HB; have HO280 := n0_; have HB := n1_; clear n0_ n1_; (try clear hb); (try clear hb2); (try clear hk); (try clear hi); (try clear ho0); obtain ⟨Ao57, co57, eo57⟩ := Kd.R_slice HO280.out; subst eo57) | ((with_reducible refine gate_callee (f := 31) rfl ?_); refine goesL_ (some 25) rfl rfl Try.func31 (by kernel_rfl) rfl #[.slice Ao57 t278.length co57] rfl (by (try simp only [List.map_toArray, List.map_cons, List.map_nil]); first | done | rfl | (simp only [List.length_drop, List.length_take]; rfl)) ?_; (with_reducible refine (cotillionref09_CheckAll.calls k _ _ t278 t281 _ ?side1 ?side2 A51.out).mono ?_); (case side1 => repeat (first | exact (Kd.R_reads' HO280.out).2.2 | (with_reducible refine Kd.C_alloc ?_ _) | (with_reducible refine Kd.C_drewN ?_ _) | (with_reducible refine Kd.C_drew ?_))); (case side2 => exact (Kd.R_reads' HO280.out).2.1); rintro e w58 ⟨rfl, hb⟩; refine ⟨_, rfl, ?_⟩; have n0_ := Aside0.mk (Kd.R_below (by (with_reducible repeat (first | apply Kd.R_alloc | apply Kd.R_drewN | apply Kd.R_drew)); exact HO280.out) hb); have n1_ := Aside0.mk (below_step (by repeat (first | (with_reducible first | exact HB.out | apply below_alloc | apply pw_below_drewN | apply below_drew1) | exact HB.out)) hb); clear HO280; clear HB; have HO280 := n0_; have HB := n1_; clear n0_ n1_; (try clear hb); (try clear hb2); (try clear hk); (try clear hi)))
              go_meet
              case rel => exact ⟨_, (true), (by first | rfl | (simp; done) | (simp [*]; done)), H', ⟨by first | omega | exact Nat.le_refl _⟩, ⟨by repeat (first | (with_reducible first | exact HB.out | apply below_alloc | apply pw_below_drewN | apply below_drew1) | exact HB.out)⟩⟩
          case rest =>
            clear HC46
            try clear c1
            try clear q1
            try clear c2
            try clear p2
            try clear c3
            try clear c4
            try clear q4
            try clear c5
            try clear c5b0
            try clear c5b1
            try clear c6
            try clear c6b0
            try clear c6b1
            try clear c7
            try clear c8
            try clear q12
            try clear c18
            try clear c18b0
            try clear c18b1
            try clear c21
            try clear c22
            try clear c23
            try clear c25
            try clear c26
            try clear c26b0
            try clear c26b1
            try clear c30
            try clear c31
            try clear c32
            try clear c32b0
            try clear c32b1
            try clear c33
            try clear c33b0
            try clear c33b1
            try clear q48
            try clear c52
            try clear c52b0
            try clear c52b1
            try clear p2
            try clear q1
            try clear q12
            try clear q48
            obtain ⟨kq, x33_45, rfl, HA, HJ45, HB⟩ := hcut
            cases kq with
            | zero => exact absurd HA.out (by simp [cotillionlaw09_OrderTexts.j1])
            | succ kj45 =>
              have H := HA.out
              clear HA
              simp only [cotillionlaw09_OrderTexts.j1] at H
              by_cases c59 : x33_45 = true
              · subst c59
                have H1 : (some false) = some r := by rw [if_pos rfl] at H; exact H
                clear H
                have H := H1
                clear H1
                obtain rfl := Option.some.inj H
                exact absurd ht_ (by decide)
              · replace c59 := Bool.eq_false_iff.mpr c59
                subst c59
                have H1 : (if t277 = 0 then ((order_Batch_Text.f y251).bind fun t282 => ((order_Parse.f kj45 t282).bind fun bt283 => ((order_Batch_Text.f y251).bind fun t287 => ((cotillionlaw09_Told.f kj45 y251).bind fun t288 => ((cotillionref09_Text.f kj45 t288).bind fun t291 => (if t287.toList = t291.toList then (if bt283.2 = 0 then ((cotillionlaw09_Told.f kj45 y251).bind fun t292 => ((cotillionlaw09_Same.f kj45 bt283.1 t292).bind fun t295 => (some (t295 == 0)))) else (some false)) else (some false))))))) else (some true)) = some r := by rw [if_neg (show ¬ (false = true) by decide)] at H; exact H
                clear H
                have H := H1
                clear H1
                by_cases c60 : t277 = 0
                · rw [if_pos c60] at H
                  have c60b0 : (t277 == 0) = true := beq_iff_eq.mpr c60
                  have c60b1 : (t277 != 0) = false := bne_eq_false_iff_eq.mpr c60
                  clear c60
                  replace H := Option.bind_eq_some_iff.mp H
                  obtain ⟨t282, A610, H⟩ := H
                  replace H : ((order_Parse.f kj45 t282).bind fun bt283 => ((order_Batch_Text.f y251).bind fun t287 => ((cotillionlaw09_Told.f kj45 y251).bind fun t288 => ((cotillionref09_Text.f kj45 t288).bind fun t291 => (if t287.toList = t291.toList then (if bt283.2 = 0 then ((cotillionlaw09_Told.f kj45 y251).bind fun t292 => ((cotillionlaw09_Same.f kj45 bt283.1 t292).bind fun t295 => (some (t295 == 0)))) else (some false)) else (some false)))))) = some r := H
                  have A61 := Aside0.mk A610
                  clear A610
                  replace H := Option.bind_eq_some_iff.mp H
                  obtain ⟨⟨t283, t284⟩, A620, H⟩ := H
                  replace H : ((order_Batch_Text.f y251).bind fun t287 => ((cotillionlaw09_Told.f kj45 y251).bind fun t288 => ((cotillionref09_Text.f kj45 t288).bind fun t291 => (if t287.toList = t291.toList then (if t284 = 0 then ((cotillionlaw09_Told.f kj45 y251).bind fun t292 => ((cotillionlaw09_Same.f kj45 t283 t292).bind fun t295 => (some (t295 == 0)))) else (some false)) else (some false))))) = some r := H
                  have A62 := Aside0.mk A620
                  clear A620
                  replace H := Option.bind_eq_some_iff.mp H
                  obtain ⟨t287, A630, H⟩ := H
                  replace H : ((cotillionlaw09_Told.f kj45 y251).bind fun t288 => ((cotillionref09_Text.f kj45 t288).bind fun t291 => (if t287.toList = t291.toList then (if t284 = 0 then ((cotillionlaw09_Told.f kj45 y251).bind fun t292 => ((cotillionlaw09_Same.f kj45 t283 t292).bind fun t295 => (some (t295 == 0)))) else (some false)) else (some false)))) = some r := H
                  have A63 := Aside0.mk A630
                  clear A630
                  replace H := Option.bind_eq_some_iff.mp H
                  obtain ⟨t288, A640, H⟩ := H
                  replace H : ((cotillionref09_Text.f kj45 t288).bind fun t291 => (if t287.toList = t291.toList then (if t284 = 0 then ((cotillionlaw09_Told.f kj45 y251).bind fun t292 => ((cotillionlaw09_Same.f kj45 t283 t292).bind fun t295 => (some (t295 == 0)))) else (some false)) else (some false))) = some r := H
                  have A64 := Aside0.mk A640
                  clear A640
                  replace H := Option.bind_eq_some_iff.mp H
                  obtain ⟨t291, A650, H⟩ := H
                  replace H : (if t287.toList = t291.toList then (if t284 = 0 then ((cotillionlaw09_Told.f kj45 y251).bind fun t292 => ((cotillionlaw09_Same.f kj45 t283 t292).bind fun t295 => (some (t295 == 0)))) else (some false)) else (some false)) = some r := H
                  have A65 := Aside0.mk A650
                  clear A650
                  by_cases c66 : t287.toList = t291.toList
                  · rw [if_pos c66] at H
                    have c66b0 : (t287.toList == t291.toList) = true := beq_iff_eq.mpr c66
                    have c66b1 : (t287.toList != t291.toList) = false := bne_eq_false_iff_eq.mpr c66
                    clear c66
                    by_cases c67 : t284 = 0
                    · rw [if_pos c67] at H
                      have c67b0 : (t284 == 0) = true := beq_iff_eq.mpr c67
                      have c67b1 : (t284 != 0) = false := bne_eq_false_iff_eq.mpr c67
                      clear c67
                      replace H := Option.bind_eq_some_iff.mp H
                      obtain ⟨t292, A680, H⟩ := H
                      replace H : ((cotillionlaw09_Same.f kj45 t283 t292).bind fun t295 => (some (t295 == 0))) = some r := H
                      have A68 := Aside0.mk A680
                      clear A680
                      replace H := Option.bind_eq_some_iff.mp H
                      obtain ⟨t295, A690, H⟩ := H
                      replace H : (some (t295 == 0)) = some r := H
                      have A69 := Aside0.mk A690
                      clear A690
                      obtain rfl := Option.some.inj H
                      clear ht_
                      go_wp2_with (first | ((with_reducible refine gate_callee (f := 23) rfl ?_); refine goesL_ (some 38) rfl rfl Try.func23 (by kernel_rfl) rfl #[.slice A0 y251.length c0] rfl (by (try simp only [List.map_toArray, List.map_cons, List.map_nil]); first | done | rfl | (simp only [List.length_drop, List.length_take]; rfl)) ?_; (with_reducible refine (order_Batch_Text.calls _ _ y251 t282 _ ?side1 ?side2 A61.out).mono ?_); (case side1 => repeat (first | exact (Kd.C_below HR254.out HB.out) | (with_reducible refine Kd.C_alloc ?_ _) | (with_reducible refine Kd.C_drewN ?_ _) | (with_reducible refine Kd.C_drew ?_))); (case side2 => exact HC254.out); rintro e w70 ⟨rfl, hb⟩; refine ⟨_, rfl, ?_⟩; have n0_ := Aside0.mk (below_step (by repeat (first | (with_reducible first | exact HB.out | apply below_alloc | apply pw_below_drewN | apply below_drew1) | exact HB.out)) hb); clear HB; have HB := n0_; clear n0_; (try clear hb); (try clear hb2); (try clear hk); (try clear hi)) | ((with_reducible refine gate_callee (f := 26) rfl ?_); refine goesL_ (some 39) rfl rfl Try.func26 (by kernel_rfl) rfl #[.string t282] rfl (by (try simp only [List.map_toArray, List.map_cons, List.map_nil]); first | done | rfl | (simp only [List.length_drop, List.length_take]; rfl)) ?_; (with_reducible refine (order_Parse.calls kj45 t282 t283 t284 _ A62.out).mono ?_); rintro e w71 ⟨v285, rfl, ho0, hb⟩; refine ⟨_, rfl, ?_⟩; have n0_ := Aside0.mk (Kd.R_lower ho0 (below_size (by repeat (first | (with_reducible first | exact HB.out | apply below_alloc | apply pw_below_drewN | apply below_drew1) | exact HB.out)))); have n1_ := Aside0.mk (below_step (by repeat (first | (with_reducible first | exact HB.out | apply below_alloc | apply pw_below_drewN | apply below_drew1) | exact HB.out)) hb); clear HB; have HO286 := n0_; have HB := n1_; clear n0_ n1_; (try clear hb); (try clear hb2); (try clear hk); (try clear hi); (try clear ho0)) | ((with_reducible refine gate_callee (f := 23) rfl ?_); refine goesL_ (some 43) rfl rfl Try.func23 (by kernel_rfl) rfl #[.slice A0 y251.length c0] rfl (by (try simp only [List.map_toArray, List.map_cons, List.map_nil]); first | done | rfl | (simp only [List.length_drop, List.length_take]; rfl)) ?_; (with_reducible refine (order_Batch_Text.calls _ _ y251 t287 _ ?side1 ?side2 A63.out).mono ?_); (case side1 => repeat (first | exact (Kd.C_below HR254.out HB.out) | (with_reducible refine Kd.C_alloc ?_ _) | (with_reducible refine Kd.C_drewN ?_ _) | (with_reducible refine Kd.C_drew ?_))); (case side2 => exact HC254.out); rintro e w72 ⟨rfl, hb⟩; refine ⟨_, rfl, ?_⟩; have n0_ := Aside0.mk (Kd.R_below (by (with_reducible repeat (first | apply Kd.R_alloc | apply Kd.R_drewN | apply Kd.R_drew)); exact HO286.out) hb); have n1_ := Aside0.mk (below_step (by repeat (first | (with_reducible first | exact HB.out | apply below_alloc | apply pw_below_drewN | apply below_drew1) | exact HB.out)) hb); clear HO286; clear HB; have HO286 := n0_; have HB := n1_; clear n0_ n1_; (try clear hb); (try clear hb2); (try clear hk); (try clear hi)) | ((with_reducible refine gate_callee (f := 25) rfl ?_); refine goesL_ (some 45) rfl rfl Try.func25 (by kernel_rfl) rfl #[.slice A0 y251.length c0] rfl (by (try simp only [List.map_toArray, List.map_cons, List.map_nil]); first | done | rfl | (simp only [List.length_drop, List.length_take]; rfl)) ?_; (with_reducible refine (cotillionlaw09_Told.calls kj45 _ _ y251 t288 _ ?side1 ?side2 A64.out).mono ?_); (case side1 => repeat (first | exact (Kd.C_below HR254.out HB.out) | (with_reducible refine Kd.C_alloc ?_ _) | (with_reducible refine Kd.C_drewN ?_ _) | (with_reducible refine Kd.C_drew ?_))); (case side2 => exact HC254.out); rintro e w73 ⟨v289, rfl, ho0, hb⟩; refine ⟨_, rfl, ?_⟩; have n0_ := Aside0.mk (Kd.R_below (by (with_reducible repeat (first | apply Kd.R_alloc | apply Kd.R_drewN | apply Kd.R_drew)); exact HO286.out) hb); have n1_ := Aside0.mk (Kd.R_lower ho0 (below_size (by repeat (first | (with_reducible first | exact HB.out | apply below_alloc | apply pw_below_drewN | apply below_drew1) | exact HB.out)))); have n2_ := Aside0.mk (below_step (by repeat (first | (with_reducible first | exact HB.out | apply below_alloc | apply pw_below_drewN | apply below_drew1) | exact HB.out)) hb); clear HO286; clear HB; have HO286 := n0_; have HO290 := n1_; have HB := n2_; clear n0_ n1_ n2_; (try clear hb); (try clear hb2); (try clear hk); (try clear hi); (try clear ho0); obtain ⟨Ao74, co74, eo74⟩ := Kd.R_slice HO290.out; subst eo74) | ((with_reducible refine gate_callee (f := 32) rfl ?_); refine goesL_ (some 46) rfl rfl Try.func32 (by kernel_rfl) rfl #[.slice Ao74 t288.length co74] rfl (by (try simp only [List.map_toArray, List.map_cons, List.map_nil]); first | done | rfl | (simp only [List.length_drop, List.length_take]; rfl)) ?_; (with_reducible refine (cotillionref09_Text.calls kj45 _ _ t288 t291 _ ?side1 ?side2 A65.out).mono ?_); (case side1 => repeat (first | exact (Kd.R_reads' HO290.out).2.2 | (with_reducible refine Kd.C_alloc ?_ _) | (with_reducible refine Kd.C_drewN ?_ _) | (with_reducible refine Kd.C_drew ?_))); (case side2 => exact (Kd.R_reads' HO290.out).2.1); rintro e w75 ⟨rfl, hb⟩; refine ⟨_, rfl, ?_⟩; have n0_ := Aside0.mk (Kd.R_below (by (with_reducible repeat (first | apply Kd.R_alloc | apply Kd.R_drewN | apply Kd.R_drew)); exact HO286.out) hb); have n1_ := Aside0.mk (Kd.R_below (by (with_reducible repeat (first | apply Kd.R_alloc | apply Kd.R_drewN | apply Kd.R_drew)); exact HO290.out) hb); have n2_ := Aside0.mk (below_step (by repeat (first | (with_reducible first | exact HB.out | apply below_alloc | apply pw_below_drewN | apply below_drew1) | exact HB.out)) hb); clear HO286; clear HO290; clear HB; have HO286 := n0_; have HO290 := n1_; have HB := n2_; clear n0_ n1_ n2_; (try clear hb); (try clear hb2); (try clear hk); (try clear hi)) | (go_at_call 25; (with_reducible refine (cotillionlaw09_Told.calls kj45 _ _ y251 t292 _ ?side1 ?side2 A68.out).mono ?_); (case side1 => repeat (first | exact (Kd.C_below HR254.out HB.out) | (with_reducible refine Kd.C_alloc ?_ _) | (with_reducible refine Kd.C_drewN ?_ _) | (with_reducible refine Kd.C_drew ?_))); (case side2 => exact HC254.out); rintro e w76 ⟨v293, rfl, ho0, hb⟩; have n0_ := Aside0.mk (Kd.R_below (by (with_reducible repeat (first | apply Kd.R_alloc | apply Kd.R_drewN | apply Kd.R_drew)); exact HO286.out) hb); have n1_ := Aside0.mk (Kd.R_elder' (by (with_reducible repeat (first | apply Kd.R_alloc | apply Kd.R_drewN | apply Kd.R_drew)); exact HO290.out) (Kd.R_base ho0) hb); have n2_ := Aside0.mk (Kd.R_lower (Kd.R_new' ho0 (Kd.R_lt (by (with_reducible repeat (first | apply Kd.R_alloc | apply Kd.R_drewN | apply Kd.R_drew)); exact HO290.out))) (below_size (by repeat (first | (with_reducible first | exact HB.out | apply below_alloc | apply pw_below_drewN | apply below_drew1) | exact HB.out)))); have n3_ := Aside0.mk (below_step (by repeat (first | (with_reducible first | exact HB.out | apply below_alloc | apply pw_below_drewN | apply below_drew1) | exact HB.out)) hb); clear HO286; clear HO290; clear HB; have HO286 := n0_; have HO290 := n1_; have HO294 := n2_; have HB := n3_; clear n0_ n1_ n2_ n3_; (try clear hb); (try clear hb2); (try clear hk); (try clear hi); (try clear ho0); obtain ⟨Ao77, co77, eo77⟩ := Kd.R_slice HO286.out; subst eo77; obtain ⟨Ao78, co78, eo78⟩ := Kd.R_slice HO294.out; subst eo78) | (go_at_call 24; (with_reducible refine (cotillionlaw09_Same.calls kj45 _ _ t283 _ _ t292 t295 _ ?side1 ?side2 ?side3 ?side4 A69.out).mono ?_); (case side1 => repeat (first | exact (Kd.R_reads' HO286.out).2.2 | (with_reducible refine Kd.C_alloc ?_ _) | (with_reducible refine Kd.C_drewN ?_ _) | (with_reducible refine Kd.C_drew ?_))); (case side2 => exact (Kd.R_reads' HO286.out).2.1); (case side3 => repeat (first | exact (Kd.R_reads' HO294.out).2.2 | (with_reducible refine Kd.C_alloc ?_ _) | (with_reducible refine Kd.C_drewN ?_ _) | (with_reducible refine Kd.C_drew ?_))); (case side4 => exact (Kd.R_reads' HO294.out).2.1); rintro e w' ⟨rfl, ⟨nd, rfl⟩⟩))
                      go_ret
                      exact ⟨by first | rfl | (simp [errW_none, errW_some] <;> rfl) | (simp [*, errW_none, errW_some] <;> rfl), by repeat (first | (with_reducible first | exact HB.out | apply below_alloc | apply pw_below_drewN | apply below_drew1) | exact HB.out)⟩
                    · rw [if_neg c67] at H
                      have c67b0 : (t284 == 0) = false := beq_eq_false_iff_ne.mpr c67
                      have c67b1 : (t284 != 0) = true := bne_iff_ne.mpr c67
                      obtain rfl := Option.some.inj H
                      exact absurd ht_ (by decide)
                  · rw [if_neg c66] at H
                    have c66b0 : (t287.toList == t291.toList) = false := beq_eq_false_iff_ne.mpr c66
                    have c66b1 : (t287.toList != t291.toList) = true := bne_iff_ne.mpr c66
                    obtain rfl := Option.some.inj H
                    exact absurd ht_ (by decide)
                · rw [if_neg c60] at H
                  have c60b0 : (t277 == 0) = false := beq_eq_false_iff_ne.mpr c60
                  have c60b1 : (t277 != 0) = true := bne_iff_ne.mpr c60
                  obtain rfl := Option.some.inj H
                  clear ht_
                  go_wp2
                  go_ret
                  exact ⟨by first | rfl | (simp [errW_none, errW_some] <;> rfl) | (simp [*, errW_none, errW_some] <;> rfl), by repeat (first | (with_reducible first | exact HB.out | apply below_alloc | apply pw_below_drewN | apply below_drew1) | exact HB.out)⟩
      · rw [if_neg c6] at H
        exact absurd H (by simp)
    · rw [if_neg c5] at H
      have c5b0 : decide (10 < (l0.length : Int)) = false := decide_eq_false c5
      have c5b1 : decide (10 < l0.length) = false := decide_eq_false (by omega)
      clear c5
      by_cases c79 : a1 = true
      · subst c79
        have H1 : ((cotillionlaw09_Tidy.f k l0).bind fun t296 => ((order_Batch_Check.f k t296).bind fun t299 => ((cotillionlaw09_Told.f k t296).bind fun t300 => ((cotillionref09_CheckAll.f k t300).bind fun t303 => (if t299 = t303 then (cotillionlaw09_OrderTexts.j2 k t296 t299 (t299 != 0)) else (cotillionlaw09_OrderTexts.j2 k t296 t299 true)))))) = some r := by rw [if_pos rfl] at H; exact H
        clear H
        have H := H1
        clear H1
        replace H := Option.bind_eq_some_iff.mp H
        obtain ⟨t296, A800, H⟩ := H
        replace H : ((order_Batch_Check.f k t296).bind fun t299 => ((cotillionlaw09_Told.f k t296).bind fun t300 => ((cotillionref09_CheckAll.f k t300).bind fun t303 => (if t299 = t303 then (cotillionlaw09_OrderTexts.j2 k t296 t299 (t299 != 0)) else (cotillionlaw09_OrderTexts.j2 k t296 t299 true))))) = some r := H
        have A80 := Aside0.mk A800
        clear A800
        replace H := Option.bind_eq_some_iff.mp H
        obtain ⟨t299, A810, H⟩ := H
        replace H : ((cotillionlaw09_Told.f k t296).bind fun t300 => ((cotillionref09_CheckAll.f k t300).bind fun t303 => (if t299 = t303 then (cotillionlaw09_OrderTexts.j2 k t296 t299 (t299 != 0)) else (cotillionlaw09_OrderTexts.j2 k t296 t299 true)))) = some r := H
        have A81 := Aside0.mk A810
        clear A810
        have HC82 := Aside0.mk H
        clear H
        go_enter Try.func8, Try.ntmps8
        go_upto_region 9 with (first | ((with_reducible refine gate_callee (f := 21) rfl ?_); refine goesL_ (some 9) rfl rfl Try.func21 (by kernel_rfl) rfl #[] rfl (by (try simp only [List.map_toArray, List.map_cons, List.map_nil]); first | done | rfl | (simp only [List.length_drop, List.length_take]; rfl)) ?_; (with_reducible refine (cotillionlaw09_awake.calls k  true _ A3.out).mono ?_); rintro e w83 ⟨rfl, hb⟩; refine ⟨_, rfl, ?_⟩; have n0_ := Aside0.mk (below_step (by repeat (first | (with_reducible first | exact HB.out | apply below_alloc | apply pw_below_drewN | apply below_drew1) | exact HB.out)) hb); clear HB; have HB := n0_; clear n0_; (try clear hb); (try clear hb2); (try clear hk); (try clear hi)) | ((with_reducible refine gate_callee (f := 22) rfl ?_); refine goesL_ (some 19) rfl rfl Try.func22 (by kernel_rfl) rfl #[.slice A0 l0.length c0] rfl (by (try simp only [List.map_toArray, List.map_cons, List.map_nil]); first | done | rfl | (simp only [List.length_drop, List.length_take]; rfl)) ?_; (with_reducible refine (cotillionlaw09_Tidy.calls k _ _ l0 t296 _ ?side1 ?side2 A80.out).mono ?_); (case side1 => repeat (first | exact (Kd.C_below HR0.out HB.out) | (with_reducible refine Kd.C_alloc ?_ _) | (with_reducible refine Kd.C_drewN ?_ _) | (with_reducible refine Kd.C_drew ?_))); (case side2 => exact HC0.out); rintro e w84 ⟨v297, rfl, ho0, hb⟩; refine ⟨_, rfl, ?_⟩; have n0_ := Aside0.mk (Kd.R_lower ho0 (below_size (by repeat (first | (with_reducible first | exact HB.out | apply below_alloc | apply pw_below_drewN | apply below_drew1) | exact HB.out)))); have n1_ := Aside0.mk (below_step (by repeat (first | (with_reducible first | exact HB.out | apply below_alloc | apply pw_below_drewN | apply below_drew1) | exact HB.out)) hb); clear HB; have HO298 := n0_; have HB := n1_; clear n0_ n1_; (try clear hb); (try clear hb2); (try clear hk); (try clear hi); (try clear ho0); obtain ⟨Ao85, co85, eo85⟩ := Kd.R_slice HO298.out; subst eo85) | ((with_reducible refine gate_callee (f := 30) rfl ?_); refine goesL_ (some 21) rfl rfl Try.func30 (by kernel_rfl) rfl #[.slice Ao85 t296.length co85] rfl (by (try simp only [List.map_toArray, List.map_cons, List.map_nil]); first | done | rfl | (simp only [List.length_drop, List.length_take]; rfl)) ?_; (with_reducible refine (order_Batch_Check.calls k _ _ t296 t299 _ ?side1 ?side2 A81.out).mono ?_); (case side1 => repeat (first | exact (Kd.R_reads' HO298.out).2.2 | (with_reducible refine Kd.C_alloc ?_ _) | (with_reducible refine Kd.C_drewN ?_ _) | (with_reducible refine Kd.C_drew ?_))); (case side2 => exact (Kd.R_reads' HO298.out).2.1); rintro e w86 ⟨rfl, hb⟩; refine ⟨_, rfl, ?_⟩; have n0_ := Aside0.mk (Kd.R_below (by (with_reducible repeat (first | apply Kd.R_alloc | apply Kd.R_drewN | apply Kd.R_drew)); exact HO298.out) hb); have n1_ := Aside0.mk (below_step (by repeat (first | (with_reducible first | exact HB.out | apply below_alloc | apply pw_below_drewN | apply below_drew1) | exact HB.out)) hb); clear HO298; clear HB; have HO298 := n0_; have HB := n1_; clear n0_ n1_; (try clear hb); (try clear hb2); (try clear hk); (try clear hi)))
        (try simp only [Act.put, List.setIfInBounds_toArray, List.set_cons_zero, List.set_cons_succ])
        go_cut [33] (fun v33 wc => ∃ (kq : Nat) (x33_81 : Bool), v33 = .bool x33_81 ∧ Aside0 (cotillionlaw09_OrderTexts.j2 kq t296 t299 x33_81 = some r) ∧ Aside0 (kq ≤ k) ∧ Aside0 (Kd.R k44 44 wc w.heap.size (fun _ => True) (.slice Ao85 t296.length co85) t296) ∧ Aside0 (Below w.heap.size w wc))
        case first =>
          have H := HC82.out
          clear HC82
          replace H := Option.bind_eq_some_iff.mp H
          obtain ⟨t300, A870, H⟩ := H
          replace H : ((cotillionref09_CheckAll.f k t300).bind fun t303 => (if t299 = t303 then (cotillionlaw09_OrderTexts.j2 k t296 t299 (t299 != 0)) else (cotillionlaw09_OrderTexts.j2 k t296 t299 true))) = some r := H
          have A87 := Aside0.mk A870
          clear A870
          replace H := Option.bind_eq_some_iff.mp H
          obtain ⟨t303, A880, H⟩ := H
          replace H : (if t299 = t303 then (cotillionlaw09_OrderTexts.j2 k t296 t299 (t299 != 0)) else (cotillionlaw09_OrderTexts.j2 k t296 t299 true)) = some r := H
          have A88 := Aside0.mk A880
          clear A880
          by_cases c89 : t299 = t303
          · rw [if_pos c89] at H
            have c89b0 : (t299 == t303) = true := beq_iff_eq.mpr c89
            have c89b1 : (t299 != t303) = false := bne_eq_false_iff_eq.mpr c89
            clear c89
            (first | rw [c89b0] | (simp only [i64_w, i32_w]; rw [c89b0]) | skip)
            have H' := Aside0.mk H
            clear H
            go_wp2_with (first | ((with_reducible refine gate_callee (f := 25) rfl ?_); refine goesL_ (some 24) rfl rfl Try.func25 (by kernel_rfl) rfl #[.slice Ao85 t296.length co85] rfl (by (try simp only [List.map_toArray, List.map_cons, List.map_nil]); first | done | rfl | (simp only [List.length_drop, List.length_take]; rfl)) ?_; (with_reducible refine (cotillionlaw09_Told.calls k _ _ t296 t300 _ ?side1 ?side2 A87.out).mono ?_); (case side1 => repeat (first | exact (Kd.R_reads' HO298.out).2.2 | (with_reducible refine Kd.C_alloc ?_ _) | (with_reducible refine Kd.C_drewN ?_ _) | (with_reducible refine Kd.C_drew ?_))); (case side2 => exact (Kd.R_reads' HO298.out).2.1); rintro e w90 ⟨v301, rfl, ho0, hb⟩; refine ⟨_, rfl, ?_⟩; have n0_ := Aside0.mk (Kd.R_below (by (with_reducible repeat (first | apply Kd.R_alloc | apply Kd.R_drewN | apply Kd.R_drew)); exact HO298.out) hb); have n1_ := Aside0.mk (Kd.R_lower ho0 (below_size (by repeat (first | (with_reducible first | exact HB.out | apply below_alloc | apply pw_below_drewN | apply below_drew1) | exact HB.out)))); have n2_ := Aside0.mk (below_step (by repeat (first | (with_reducible first | exact HB.out | apply below_alloc | apply pw_below_drewN | apply below_drew1) | exact HB.out)) hb); clear HO298; clear HB; have HO298 := n0_; have HO302 := n1_; have HB := n2_; clear n0_ n1_ n2_; (try clear hb); (try clear hb2); (try clear hk); (try clear hi); (try clear ho0); obtain ⟨Ao91, co91, eo91⟩ := Kd.R_slice HO302.out; subst eo91) | ((with_reducible refine gate_callee (f := 31) rfl ?_); refine goesL_ (some 25) rfl rfl Try.func31 (by kernel_rfl) rfl #[.slice Ao91 t300.length co91] rfl (by (try simp only [List.map_toArray, List.map_cons, List.map_nil]); first | done | rfl | (simp only [List.length_drop, List.length_take]; rfl)) ?_; (with_reducible refine (cotillionref09_CheckAll.calls k _ _ t300 t303 _ ?side1 ?side2 A88.out).mono ?_); (case side1 => repeat (first | exact (Kd.R_reads' HO302.out).2.2 | (with_reducible refine Kd.C_alloc ?_ _) | (with_reducible refine Kd.C_drewN ?_ _) | (with_reducible refine Kd.C_drew ?_))); (case side2 => exact (Kd.R_reads' HO302.out).2.1); rintro e w92 ⟨rfl, hb⟩; refine ⟨_, rfl, ?_⟩; have n0_ := Aside0.mk (Kd.R_below (by (with_reducible repeat (first | apply Kd.R_alloc | apply Kd.R_drewN | apply Kd.R_drew)); exact HO298.out) hb); have n1_ := Aside0.mk (Kd.R_below (by (with_reducible repeat (first | apply Kd.R_alloc | apply Kd.R_drewN | apply Kd.R_drew)); exact HO302.out) hb); have n2_ := Aside0.mk (below_step (by repeat (first | (with_reducible first | exact HB.out | apply below_alloc | apply pw_below_drewN | apply below_drew1) | exact HB.out)) hb); clear HO298; clear HO302; clear HB; have HO298 := n0_; have HO302 := n1_; have HB := n2_; clear n0_ n1_ n2_; (try clear hb); (try clear hb2); (try clear hk); (try clear hi)))
            go_meet
            case rel => exact ⟨_, ((t299 != 0)), (by first | rfl | (simp; done) | (simp [*]; done)), H', ⟨by first | omega | exact Nat.le_refl _⟩, ⟨by (with_reducible repeat (first | apply Kd.R_alloc | apply Kd.R_drewN | apply Kd.R_drew)); exact HO298.out⟩, ⟨by repeat (first | (with_reducible first | exact HB.out | apply below_alloc | apply pw_below_drewN | apply below_drew1) | exact HB.out)⟩⟩
          · rw [if_neg c89] at H
            have c89b0 : (t299 == t303) = false := beq_eq_false_iff_ne.mpr c89
            have c89b1 : (t299 != t303) = true := bne_iff_ne.mpr c89
            (first | rw [c89b0] | (simp only [i64_w, i32_w]; rw [c89b0]) | skip)
            have H' := Aside0.mk H
            clear H
            go_wp2_with (first | ((with_reducible refine gate_callee (f := 25) rfl ?_); refine goesL_ (some 24) rfl rfl Try.func25 (by kernel_rfl) rfl #[.slice Ao85 t296.length co85] rfl (by (try simp only [List.map_toArray, List.map_cons, List.map_nil]); first | done | rfl | (simp only [List.length_drop, List.length_take]; rfl)) ?_; (with_reducible refine (cotillionlaw09_Told.calls k _ _ t296 t300 _ ?side1 ?side2 A87.out).mono ?_); (case side1 => repeat (first | exact (Kd.R_reads' HO298.out).2.2 | (with_reducible refine Kd.C_alloc ?_ _) | (with_reducible refine Kd.C_drewN ?_ _) | (with_reducible refine Kd.C_drew ?_))); (case side2 => exact (Kd.R_reads' HO298.out).2.1); rintro e w93 ⟨v301, rfl, ho0, hb⟩; refine ⟨_, rfl, ?_⟩; have n0_ := Aside0.mk (Kd.R_below (by (with_reducible repeat (first | apply Kd.R_alloc | apply Kd.R_drewN | apply Kd.R_drew)); exact HO298.out) hb); have n1_ := Aside0.mk (Kd.R_lower ho0 (below_size (by repeat (first | (with_reducible first | exact HB.out | apply below_alloc | apply pw_below_drewN | apply below_drew1) | exact HB.out)))); have n2_ := Aside0.mk (below_step (by repeat (first | (with_reducible first | exact HB.out | apply below_alloc | apply pw_below_drewN | apply below_drew1) | exact HB.out)) hb); clear HO298; clear HB; have HO298 := n0_; have HO302 := n1_; have HB := n2_; clear n0_ n1_ n2_; (try clear hb); (try clear hb2); (try clear hk); (try clear hi); (try clear ho0); obtain ⟨Ao94, co94, eo94⟩ := Kd.R_slice HO302.out; subst eo94) | ((with_reducible refine gate_callee (f := 31) rfl ?_); refine goesL_ (some 25) rfl rfl Try.func31 (by kernel_rfl) rfl #[.slice Ao94 t300.length co94] rfl (by (try simp only [List.map_toArray, List.map_cons, List.map_nil]); first | done | rfl | (simp only [List.length_drop, List.length_take]; rfl)) ?_; (with_reducible refine (cotillionref09_CheckAll.calls k _ _ t300 t303 _ ?side1 ?side2 A88.out).mono ?_); (case side1 => repeat (first | exact (Kd.R_reads' HO302.out).2.2 | (with_reducible refine Kd.C_alloc ?_ _) | (with_reducible refine Kd.C_drewN ?_ _) | (with_reducible refine Kd.C_drew ?_))); (case side2 => exact (Kd.R_reads' HO302.out).2.1); rintro e w95 ⟨rfl, hb⟩; refine ⟨_, rfl, ?_⟩; have n0_ := Aside0.mk (Kd.R_below (by (with_reducible repeat (first | apply Kd.R_alloc | apply Kd.R_drewN | apply Kd.R_drew)); exact HO298.out) hb); have n1_ := Aside0.mk (Kd.R_below (by (with_reducible repeat (first | apply Kd.R_alloc | apply Kd.R_drewN | apply Kd.R_drew)); exact HO302.out) hb); have n2_ := Aside0.mk (below_step (by repeat (first | (with_reducible first | exact HB.out | apply below_alloc | apply pw_below_drewN | apply below_drew1) | exact HB.out)) hb); clear HO298; clear HO302; clear HB; have HO298 := n0_; have HO302 := n1_; have HB := n2_; clear n0_ n1_ n2_; (try clear hb); (try clear hb2); (try clear hk); (try clear hi)))
            go_meet
            case rel => exact ⟨_, (true), (by first | rfl | (simp; done) | (simp [*]; done)), H', ⟨by first | omega | exact Nat.le_refl _⟩, ⟨by (with_reducible repeat (first | apply Kd.R_alloc | apply Kd.R_drewN | apply Kd.R_drew)); exact HO298.out⟩, ⟨by repeat (first | (with_reducible first | exact HB.out | apply below_alloc | apply pw_below_drewN | apply below_drew1) | exact HB.out)⟩⟩
        case rest =>
          clear HC82
          try clear c1
          try clear q1
          try clear c2
          try clear p2
          try clear c3
          try clear c4
          try clear q4
          try clear c5
          try clear c5b0
          try clear c5b1
          try clear c6
          try clear c6b0
          try clear c6b1
          try clear c7
          try clear c8
          try clear q12
          try clear c18
          try clear c18b0
          try clear c18b1
          try clear c21
          try clear c22
          try clear c23
          try clear c25
          try clear c26
          try clear c26b0
          try clear c26b1
          try clear c30
          try clear c31
          try clear c32
          try clear c32b0
          try clear c32b1
          try clear c33
          try clear c33b0
          try clear c33b1
          try clear q48
          try clear c52
          try clear c52b0
          try clear c52b1
          try clear c59
          try clear c60
          try clear c60b0
          try clear c60b1
          try clear c66
          try clear c66b0
          try clear c66b1
          try clear c67
          try clear c67b0
          try clear c67b1
          try clear c79
          try clear c89
          try clear c89b0
          try clear c89b1
          try clear p2
          try clear q1
          try clear q12
          try clear q4
          try clear q48
          obtain ⟨kq, x33_81, rfl, HA, HJ81, HO_5, HB⟩ := hcut
          cases kq with
          | zero => exact absurd HA.out (by simp [cotillionlaw09_OrderTexts.j2])
          | succ kj81 =>
            have H := HA.out
            clear HA
            simp only [cotillionlaw09_OrderTexts.j2] at H
            by_cases c96 : x33_81 = true
            · subst c96
              have H1 : (some false) = some r := by rw [if_pos rfl] at H; exact H
              clear H
              have H := H1
              clear H1
              obtain rfl := Option.some.inj H
              exact absurd ht_ (by decide)
            · replace c96 := Bool.eq_false_iff.mpr c96
              subst c96
              have H1 : (if t299 = 0 then ((order_Batch_Text.f t296).bind fun t304 => ((order_Parse.f kj81 t304).bind fun bt305 => ((order_Batch_Text.f t296).bind fun t309 => ((cotillionlaw09_Told.f kj81 t296).bind fun t310 => ((cotillionref09_Text.f kj81 t310).bind fun t313 => (if t309.toList = t313.toList then (if bt305.2 = 0 then ((cotillionlaw09_Told.f kj81 t296).bind fun t314 => ((cotillionlaw09_Same.f kj81 bt305.1 t314).bind fun t317 => (some (t317 == 0)))) else (some false)) else (some false))))))) else (some true)) = some r := by rw [if_neg (show ¬ (false = true) by decide)] at H; exact H
              clear H
              have H := H1
              clear H1
              by_cases c97 : t299 = 0
              · rw [if_pos c97] at H
                have c97b0 : (t299 == 0) = true := beq_iff_eq.mpr c97
                have c97b1 : (t299 != 0) = false := bne_eq_false_iff_eq.mpr c97
                clear c97
                replace H := Option.bind_eq_some_iff.mp H
                obtain ⟨t304, A980, H⟩ := H
                replace H : ((order_Parse.f kj81 t304).bind fun bt305 => ((order_Batch_Text.f t296).bind fun t309 => ((cotillionlaw09_Told.f kj81 t296).bind fun t310 => ((cotillionref09_Text.f kj81 t310).bind fun t313 => (if t309.toList = t313.toList then (if bt305.2 = 0 then ((cotillionlaw09_Told.f kj81 t296).bind fun t314 => ((cotillionlaw09_Same.f kj81 bt305.1 t314).bind fun t317 => (some (t317 == 0)))) else (some false)) else (some false)))))) = some r := H
                have A98 := Aside0.mk A980
                clear A980
                replace H := Option.bind_eq_some_iff.mp H
                obtain ⟨⟨t305, t306⟩, A990, H⟩ := H
                replace H : ((order_Batch_Text.f t296).bind fun t309 => ((cotillionlaw09_Told.f kj81 t296).bind fun t310 => ((cotillionref09_Text.f kj81 t310).bind fun t313 => (if t309.toList = t313.toList then (if t306 = 0 then ((cotillionlaw09_Told.f kj81 t296).bind fun t314 => ((cotillionlaw09_Same.f kj81 t305 t314).bind fun t317 => (some (t317 == 0)))) else (some false)) else (some false))))) = some r := H
                have A99 := Aside0.mk A990
                clear A990
                replace H := Option.bind_eq_some_iff.mp H
                obtain ⟨t309, A1000, H⟩ := H
                replace H : ((cotillionlaw09_Told.f kj81 t296).bind fun t310 => ((cotillionref09_Text.f kj81 t310).bind fun t313 => (if t309.toList = t313.toList then (if t306 = 0 then ((cotillionlaw09_Told.f kj81 t296).bind fun t314 => ((cotillionlaw09_Same.f kj81 t305 t314).bind fun t317 => (some (t317 == 0)))) else (some false)) else (some false)))) = some r := H
                have A100 := Aside0.mk A1000
                clear A1000
                replace H := Option.bind_eq_some_iff.mp H
                obtain ⟨t310, A1010, H⟩ := H
                replace H : ((cotillionref09_Text.f kj81 t310).bind fun t313 => (if t309.toList = t313.toList then (if t306 = 0 then ((cotillionlaw09_Told.f kj81 t296).bind fun t314 => ((cotillionlaw09_Same.f kj81 t305 t314).bind fun t317 => (some (t317 == 0)))) else (some false)) else (some false))) = some r := H
                have A101 := Aside0.mk A1010
                clear A1010
                replace H := Option.bind_eq_some_iff.mp H
                obtain ⟨t313, A1020, H⟩ := H
                replace H : (if t309.toList = t313.toList then (if t306 = 0 then ((cotillionlaw09_Told.f kj81 t296).bind fun t314 => ((cotillionlaw09_Same.f kj81 t305 t314).bind fun t317 => (some (t317 == 0)))) else (some false)) else (some false)) = some r := H
                have A102 := Aside0.mk A1020
                clear A1020
                by_cases c103 : t309.toList = t313.toList
                · rw [if_pos c103] at H
                  have c103b0 : (t309.toList == t313.toList) = true := beq_iff_eq.mpr c103
                  have c103b1 : (t309.toList != t313.toList) = false := bne_eq_false_iff_eq.mpr c103
                  clear c103
                  by_cases c104 : t306 = 0
                  · rw [if_pos c104] at H
                    have c104b0 : (t306 == 0) = true := beq_iff_eq.mpr c104
                    have c104b1 : (t306 != 0) = false := bne_eq_false_iff_eq.mpr c104
                    clear c104
                    replace H := Option.bind_eq_some_iff.mp H
                    obtain ⟨t314, A1050, H⟩ := H
                    replace H : ((cotillionlaw09_Same.f kj81 t305 t314).bind fun t317 => (some (t317 == 0))) = some r := H
                    have A105 := Aside0.mk A1050
                    clear A1050
                    replace H := Option.bind_eq_some_iff.mp H
                    obtain ⟨t317, A1060, H⟩ := H
                    replace H : (some (t317 == 0)) = some r := H
                    have A106 := Aside0.mk A1060
                    clear A1060
                    obtain rfl := Option.some.inj H
                    clear ht_
                    go_wp2_with (first | ((with_reducible refine gate_callee (f := 23) rfl ?_); refine goesL_ (some 38) rfl rfl Try.func23 (by kernel_rfl) rfl #[.slice Ao85 t296.length co85] rfl (by (try simp only [List.map_toArray, List.map_cons, List.map_nil]); first | done | rfl | (simp only [List.length_drop, List.length_take]; rfl)) ?_; (with_reducible refine (order_Batch_Text.calls _ _ t296 t304 _ ?side1 ?side2 A98.out).mono ?_); (case side1 => repeat (first | exact (Kd.R_reads' HO_5.out).2.2 | (with_reducible refine Kd.C_alloc ?_ _) | (with_reducible refine Kd.C_drewN ?_ _) | (with_reducible refine Kd.C_drew ?_))); (case side2 => exact (Kd.R_reads' HO_5.out).2.1); rintro e w107 ⟨rfl, hb⟩; refine ⟨_, rfl, ?_⟩; have n0_ := Aside0.mk (Kd.R_below (by (with_reducible repeat (first | apply Kd.R_alloc | apply Kd.R_drewN | apply Kd.R_drew)); exact HO_5.out) hb); have n1_ := Aside0.mk (below_step (by repeat (first | (with_reducible first | exact HB.out | apply below_alloc | apply pw_below_drewN | apply below_drew1) | exact HB.out)) hb); clear HO_5; clear HB; have HO_5 := n0_; have HB := n1_; clear n0_ n1_; (try clear hb); (try clear hb2); (try clear hk); (try clear hi)) | ((with_reducible refine gate_callee (f := 26) rfl ?_); refine goesL_ (some 39) rfl rfl Try.func26 (by kernel_rfl) rfl #[.string t304] rfl (by (try simp only [List.map_toArray, List.map_cons, List.map_nil]); first | done | rfl | (simp only [List.length_drop, List.length_take]; rfl)) ?_; (with_reducible refine (order_Parse.calls kj81 t304 t305 t306 _ A99.out).mono ?_); rintro e w108 ⟨v307, rfl, ho0, hb⟩; refine ⟨_, rfl, ?_⟩; have n0_ := Aside0.mk (Kd.R_elder' (by (with_reducible repeat (first | apply Kd.R_alloc | apply Kd.R_drewN | apply Kd.R_drew)); exact HO_5.out) (Kd.R_base ho0) hb); have n1_ := Aside0.mk (Kd.R_lower (Kd.R_new' ho0 (Kd.R_lt (by (with_reducible repeat (first | apply Kd.R_alloc | apply Kd.R_drewN | apply Kd.R_drew)); exact HO_5.out))) (below_size (by repeat (first | (with_reducible first | exact HB.out | apply below_alloc | apply pw_below_drewN | apply below_drew1) | exact HB.out)))); have n2_ := Aside0.mk (below_step (by repeat (first | (with_reducible first | exact HB.out | apply below_alloc | apply pw_below_drewN | apply below_drew1) | exact HB.out)) hb); clear HO_5; clear HB; have HO_5 := n0_; have HO308 := n1_; have HB := n2_; clear n0_ n1_ n2_; (try clear hb); (try clear hb2); (try clear hk); (try clear hi); (try clear ho0)) | ((with_reducible refine gate_callee (f := 23) rfl ?_); refine goesL_ (some 43) rfl rfl Try.func23 (by kernel_rfl) rfl #[.slice Ao85 t296.length co85] rfl (by (try simp only [List.map_toArray, List.map_cons, List.map_nil]); first | done | rfl | (simp only [List.length_drop, List.length_take]; rfl)) ?_; (with_reducible refine (order_Batch_Text.calls _ _ t296 t309 _ ?side1 ?side2 A100.out).mono ?_); (case side1 => repeat (first | exact (Kd.R_reads' HO_5.out).2.2 | (with_reducible refine Kd.C_alloc ?_ _) | (with_reducible refine Kd.C_drewN ?_ _) | (with_reducible refine Kd.C_drew ?_))); (case side2 => exact (Kd.R_reads' HO_5.out).2.1); rintro e w109 ⟨rfl, hb⟩; refine ⟨_, rfl, ?_⟩; have n0_ := Aside0.mk (Kd.R_below (by (with_reducible repeat (first | apply Kd.R_alloc | apply Kd.R_drewN | apply Kd.R_drew)); exact HO_5.out) hb); have n1_ := Aside0.mk (Kd.R_below (by (with_reducible repeat (first | apply Kd.R_alloc | apply Kd.R_drewN | apply Kd.R_drew)); exact HO308.out) hb); have n2_ := Aside0.mk (below_step (by repeat (first | (with_reducible first | exact HB.out | apply below_alloc | apply pw_below_drewN | apply below_drew1) | exact HB.out)) hb); clear HO_5; clear HO308; clear HB; have HO_5 := n0_; have HO308 := n1_; have HB := n2_; clear n0_ n1_ n2_; (try clear hb); (try clear hb2); (try clear hk); (try clear hi)) | ((with_reducible refine gate_callee (f := 25) rfl ?_); refine goesL_ (some 45) rfl rfl Try.func25 (by kernel_rfl) rfl #[.slice Ao85 t296.length co85] rfl (by (try simp only [List.map_toArray, List.map_cons, List.map_nil]); first | done | rfl | (simp only [List.length_drop, List.length_take]; rfl)) ?_; (with_reducible refine (cotillionlaw09_Told.calls kj81 _ _ t296 t310 _ ?side1 ?side2 A101.out).mono ?_); (case side1 => repeat (first | exact (Kd.R_reads' HO_5.out).2.2 | (with_reducible refine Kd.C_alloc ?_ _) | (with_reducible refine Kd.C_drewN ?_ _) | (with_reducible refine Kd.C_drew ?_))); (case side2 => exact (Kd.R_reads' HO_5.out).2.1); rintro e w110 ⟨v311, rfl, ho0, hb⟩; refine ⟨_, rfl, ?_⟩; have n0_ := Aside0.mk (Kd.R_below (by (with_reducible repeat (first | apply Kd.R_alloc | apply Kd.R_drewN | apply Kd.R_drew)); exact HO_5.out) hb); have n1_ := Aside0.mk (Kd.R_below (by (with_reducible repeat (first | apply Kd.R_alloc | apply Kd.R_drewN | apply Kd.R_drew)); exact HO308.out) hb); have n2_ := Aside0.mk (Kd.R_lower ho0 (below_size (by repeat (first | (with_reducible first | exact HB.out | apply below_alloc | apply pw_below_drewN | apply below_drew1) | exact HB.out)))); have n3_ := Aside0.mk (below_step (by repeat (first | (with_reducible first | exact HB.out | apply below_alloc | apply pw_below_drewN | apply below_drew1) | exact HB.out)) hb); clear HO_5; clear HO308; clear HB; have HO_5 := n0_; have HO308 := n1_; have HO312 := n2_; have HB := n3_; clear n0_ n1_ n2_ n3_; (try clear hb); (try clear hb2); (try clear hk); (try clear hi); (try clear ho0); obtain ⟨Ao111, co111, eo111⟩ := Kd.R_slice HO312.out; subst eo111) | ((with_reducible refine gate_callee (f := 32) rfl ?_); refine goesL_ (some 46) rfl rfl Try.func32 (by kernel_rfl) rfl #[.slice Ao111 t310.length co111] rfl (by (try simp only [List.map_toArray, List.map_cons, List.map_nil]); first | done | rfl | (simp only [List.length_drop, List.length_take]; rfl)) ?_; (with_reducible refine (cotillionref09_Text.calls kj81 _ _ t310 t313 _ ?side1 ?side2 A102.out).mono ?_); (case side1 => repeat (first | exact (Kd.R_reads' HO312.out).2.2 | (with_reducible refine Kd.C_alloc ?_ _) | (with_reducible refine Kd.C_drewN ?_ _) | (with_reducible refine Kd.C_drew ?_))); (case side2 => exact (Kd.R_reads' HO312.out).2.1); rintro e w112 ⟨rfl, hb⟩; refine ⟨_, rfl, ?_⟩; have n0_ := Aside0.mk (Kd.R_below (by (with_reducible repeat (first | apply Kd.R_alloc | apply Kd.R_drewN | apply Kd.R_drew)); exact HO_5.out) hb); have n1_ := Aside0.mk (Kd.R_below (by (with_reducible repeat (first | apply Kd.R_alloc | apply Kd.R_drewN | apply Kd.R_drew)); exact HO308.out) hb); have n2_ := Aside0.mk (Kd.R_below (by (with_reducible repeat (first | apply Kd.R_alloc | apply Kd.R_drewN | apply Kd.R_drew)); exact HO312.out) hb); have n3_ := Aside0.mk (below_step (by repeat (first | (with_reducible first | exact HB.out | apply below_alloc | apply pw_below_drewN | apply below_drew1) | exact HB.out)) hb); clear HO_5; clear HO308; clear HO312; clear HB; have HO_5 := n0_; have HO308 := n1_; have HO312 := n2_; have HB := n3_; clear n0_ n1_ n2_ n3_; (try clear hb); (try clear hb2); (try clear hk); (try clear hi)) | (go_at_call 25; (with_reducible refine (cotillionlaw09_Told.calls kj81 _ _ t296 t314 _ ?side1 ?side2 A105.out).mono ?_); (case side1 => repeat (first | exact (Kd.R_reads' HO_5.out).2.2 | (with_reducible refine Kd.C_alloc ?_ _) | (with_reducible refine Kd.C_drewN ?_ _) | (with_reducible refine Kd.C_drew ?_))); (case side2 => exact (Kd.R_reads' HO_5.out).2.1); rintro e w113 ⟨v315, rfl, ho0, hb⟩; have n0_ := Aside0.mk (Kd.R_below (by (with_reducible repeat (first | apply Kd.R_alloc | apply Kd.R_drewN | apply Kd.R_drew)); exact HO_5.out) hb); have n1_ := Aside0.mk (Kd.R_below (by (with_reducible repeat (first | apply Kd.R_alloc | apply Kd.R_drewN | apply Kd.R_drew)); exact HO308.out) hb); have n2_ := Aside0.mk (Kd.R_elder' (by (with_reducible repeat (first | apply Kd.R_alloc | apply Kd.R_drewN | apply Kd.R_drew)); exact HO312.out) (Kd.R_base ho0) hb); have n3_ := Aside0.mk (Kd.R_lower (Kd.R_new' ho0 (Kd.R_lt (by (with_reducible repeat (first | apply Kd.R_alloc | apply Kd.R_drewN | apply Kd.R_drew)); exact HO312.out))) (below_size (by repeat (first | (with_reducible first | exact HB.out | apply below_alloc | apply pw_below_drewN | apply below_drew1) | exact HB.out)))); have n4_ := Aside0.mk (below_step (by repeat (first | (with_reducible first | exact HB.out | apply below_alloc | apply pw_below_drewN | apply below_drew1) | exact HB.out)) hb); clear HO_5; clear HO308; clear HO312; clear HB; have HO_5 := n0_; have HO308 := n1_; have HO312 := n2_; have HO316 := n3_; have HB := n4_; clear n0_ n1_ n2_ n3_ n4_; (try clear hb); (try clear hb2); (try clear hk); (try clear hi); (try clear ho0); obtain ⟨Ao114, co114, eo114⟩ := Kd.R_slice HO308.out; subst eo114; obtain ⟨Ao115, co115, eo115⟩ := Kd.R_slice HO316.out; subst eo115) | (go_at_call 24; (with_reducible refine (cotillionlaw09_Same.calls kj81 _ _ t305 _ _ t314 t317 _ ?side1 ?side2 ?side3 ?side4 A106.out).mono ?_); (case side1 => repeat (first | exact (Kd.R_reads' HO308.out).2.2 | (with_reducible refine Kd.C_alloc ?_ _) | (with_reducible refine Kd.C_drewN ?_ _) | (with_reducible refine Kd.C_drew ?_))); (case side2 => exact (Kd.R_reads' HO308.out).2.1); (case side3 => repeat (first | exact (Kd.R_reads' HO316.out).2.2 | (with_reducible refine Kd.C_alloc ?_ _) | (with_reducible refine Kd.C_drewN ?_ _) | (with_reducible refine Kd.C_drew ?_))); (case side4 => exact (Kd.R_reads' HO316.out).2.1); rintro e w' ⟨rfl, ⟨nd, rfl⟩⟩))
                    go_ret
                    exact ⟨by first | rfl | (simp [errW_none, errW_some] <;> rfl) | (simp [*, errW_none, errW_some] <;> rfl), by repeat (first | (with_reducible first | exact HB.out | apply below_alloc | apply pw_below_drewN | apply below_drew1) | exact HB.out)⟩
                  · rw [if_neg c104] at H
                    have c104b0 : (t306 == 0) = false := beq_eq_false_iff_ne.mpr c104
                    have c104b1 : (t306 != 0) = true := bne_iff_ne.mpr c104
                    obtain rfl := Option.some.inj H
                    exact absurd ht_ (by decide)
                · rw [if_neg c103] at H
                  have c103b0 : (t309.toList == t313.toList) = false := beq_eq_false_iff_ne.mpr c103
                  have c103b1 : (t309.toList != t313.toList) = true := bne_iff_ne.mpr c103
                  obtain rfl := Option.some.inj H
                  exact absurd ht_ (by decide)
              · rw [if_neg c97] at H
                have c97b0 : (t299 == 0) = false := beq_eq_false_iff_ne.mpr c97
                have c97b1 : (t299 != 0) = true := bne_iff_ne.mpr c97
                obtain rfl := Option.some.inj H
                clear ht_
                go_wp2
                go_ret
                exact ⟨by first | rfl | (simp [errW_none, errW_some] <;> rfl) | (simp [*, errW_none, errW_some] <;> rfl), by repeat (first | (with_reducible first | exact HB.out | apply below_alloc | apply pw_below_drewN | apply below_drew1) | exact HB.out)⟩
      · replace c79 := Bool.eq_false_iff.mpr c79
        subst c79
        have H1 : ((order_Batch_Check.f k l0).bind fun t318 => ((cotillionlaw09_Told.f k l0).bind fun t319 => ((cotillionref09_CheckAll.f k t319).bind fun t322 => (if t318 = t322 then (cotillionlaw09_OrderTexts.j3 k l0 t318 false) else (cotillionlaw09_OrderTexts.j3 k l0 t318 true))))) = some r := by rw [if_neg (show ¬ (false = true) by decide)] at H; exact H
        clear H
        have H := H1
        clear H1
        replace H := Option.bind_eq_some_iff.mp H
        obtain ⟨t318, A1160, H⟩ := H
        replace H : ((cotillionlaw09_Told.f k l0).bind fun t319 => ((cotillionref09_CheckAll.f k t319).bind fun t322 => (if t318 = t322 then (cotillionlaw09_OrderTexts.j3 k l0 t318 false) else (cotillionlaw09_OrderTexts.j3 k l0 t318 true)))) = some r := H
        have A116 := Aside0.mk A1160
        clear A1160
        have HC117 := Aside0.mk H
        clear H
        go_enter Try.func8, Try.ntmps8
        go_upto_region 9 with (first | ((with_reducible refine gate_callee (f := 21) rfl ?_); refine goesL_ (some 9) rfl rfl Try.func21 (by kernel_rfl) rfl #[] rfl (by (try simp only [List.map_toArray, List.map_cons, List.map_nil]); first | done | rfl | (simp only [List.length_drop, List.length_take]; rfl)) ?_; (with_reducible refine (cotillionlaw09_awake.calls k  true _ A3.out).mono ?_); rintro e w118 ⟨rfl, hb⟩; refine ⟨_, rfl, ?_⟩; have n0_ := Aside0.mk (below_step (by repeat (first | (with_reducible first | exact HB.out | apply below_alloc | apply pw_below_drewN | apply below_drew1) | exact HB.out)) hb); clear HB; have HB := n0_; clear n0_; (try clear hb); (try clear hb2); (try clear hk); (try clear hi)) | ((with_reducible refine gate_callee (f := 30) rfl ?_); refine goesL_ (some 21) rfl rfl Try.func30 (by kernel_rfl) rfl #[.slice A0 l0.length c0] rfl (by (try simp only [List.map_toArray, List.map_cons, List.map_nil]); first | done | rfl | (simp only [List.length_drop, List.length_take]; rfl)) ?_; (with_reducible refine (order_Batch_Check.calls k _ _ l0 t318 _ ?side1 ?side2 A116.out).mono ?_); (case side1 => repeat (first | exact (Kd.C_below HR0.out HB.out) | (with_reducible refine Kd.C_alloc ?_ _) | (with_reducible refine Kd.C_drewN ?_ _) | (with_reducible refine Kd.C_drew ?_))); (case side2 => exact HC0.out); rintro e w119 ⟨rfl, hb⟩; refine ⟨_, rfl, ?_⟩; have n0_ := Aside0.mk (below_step (by repeat (first | (with_reducible first | exact HB.out | apply below_alloc | apply pw_below_drewN | apply below_drew1) | exact HB.out)) hb); clear HB; have HB := n0_; clear n0_; (try clear hb); (try clear hb2); (try clear hk); (try clear hi)))
        (try simp only [Act.put, List.setIfInBounds_toArray, List.set_cons_zero, List.set_cons_succ])
        go_cut [33] (fun v33 wc => ∃ (kq : Nat) (x33_116 : Bool), v33 = .bool x33_116 ∧ Aside0 (cotillionlaw09_OrderTexts.j3 kq l0 t318 x33_116 = some r) ∧ Aside0 (kq ≤ k) ∧ Aside0 (Below w.heap.size w wc))
        case first =>
          have H := HC117.out
          clear HC117
          replace H := Option.bind_eq_some_iff.mp H
          obtain ⟨t319, A1200, H⟩ := H
          replace H : ((cotillionref09_CheckAll.f k t319).bind fun t322 => (if t318 = t322 then (cotillionlaw09_OrderTexts.j3 k l0 t318 false) else (cotillionlaw09_OrderTexts.j3 k l0 t318 true))) = some r := H
          have A120 := Aside0.mk A1200
          clear A1200
          replace H := Option.bind_eq_some_iff.mp H
          obtain ⟨t322, A1210, H⟩ := H
          replace H : (if t318 = t322 then (cotillionlaw09_OrderTexts.j3 k l0 t318 false) else (cotillionlaw09_OrderTexts.j3 k l0 t318 true)) = some r := H
          have A121 := Aside0.mk A1210
          clear A1210
          by_cases c122 : t318 = t322
          · rw [if_pos c122] at H
            have c122b0 : (t318 == t322) = true := beq_iff_eq.mpr c122
            have c122b1 : (t318 != t322) = false := bne_eq_false_iff_eq.mpr c122
            clear c122
            (first | rw [c122b0] | (simp only [i64_w, i32_w]; rw [c122b0]) | skip)
            have H' := Aside0.mk H
            clear H
            go_wp2_with (first | ((with_reducible refine gate_callee (f := 25) rfl ?_); refine goesL_ (some 24) rfl rfl Try.func25 (by kernel_rfl) rfl #[.slice A0 l0.length c0] rfl (by (try simp only [List.map_toArray, List.map_cons, List.map_nil]); first | done | rfl | (simp only [List.length_drop, List.length_take]; rfl)) ?_; (with_reducible refine (cotillionlaw09_Told.calls k _ _ l0 t319 _ ?side1 ?side2 A120.out).mono ?_); (case side1 => repeat (first | exact (Kd.C_below HR0.out HB.out) | (with_reducible refine Kd.C_alloc ?_ _) | (with_reducible refine Kd.C_drewN ?_ _) | (with_reducible refine Kd.C_drew ?_))); (case side2 => exact HC0.out); rintro e w123 ⟨v320, rfl, ho0, hb⟩; refine ⟨_, rfl, ?_⟩; have n0_ := Aside0.mk (Kd.R_lower ho0 (below_size (by repeat (first | (with_reducible first | exact HB.out | apply below_alloc | apply pw_below_drewN | apply below_drew1) | exact HB.out)))); have n1_ := Aside0.mk (below_step (by repeat (first | (with_reducible first | exact HB.out | apply below_alloc | apply pw_below_drewN | apply below_drew1) | exact HB.out)) hb); clear HB; have HO321 := n0_; have HB := n1_; clear n0_ n1_; (try clear hb); (try clear hb2); (try clear hk); (try clear hi); (try clear ho0); obtain ⟨Ao124, co124, eo124⟩ := Kd.R_slice HO321.out; subst eo124) | ((with_reducible refine gate_callee (f := 31) rfl ?_); refine goesL_ (some 25) rfl rfl Try.func31 (by kernel_rfl) rfl #[.slice Ao124 t319.length co124] rfl (by (try simp only [List.map_toArray, List.map_cons, List.map_nil]); first | done | rfl | (simp only [List.length_drop, List.length_take]; rfl)) ?_; (with_reducible refine (cotillionref09_CheckAll.calls k _ _ t319 t322 _ ?side1 ?side2 A121.out).mono ?_); (case side1 => repeat (first | exact (Kd.R_reads' HO321.out).2.2 | (with_reducible refine Kd.C_alloc ?_ _) | (with_reducible refine Kd.C_drewN ?_ _) | (with_reducible refine Kd.C_drew ?_))); (case side2 => exact (Kd.R_reads' HO321.out).2.1); rintro e w125 ⟨rfl, hb⟩; refine ⟨_, rfl, ?_⟩; have n0_ := Aside0.mk (Kd.R_below (by (with_reducible repeat (first | apply Kd.R_alloc | apply Kd.R_drewN | apply Kd.R_drew)); exact HO321.out) hb); have n1_ := Aside0.mk (below_step (by repeat (first | (with_reducible first | exact HB.out | apply below_alloc | apply pw_below_drewN | apply below_drew1) | exact HB.out)) hb); clear HO321; clear HB; have HO321 := n0_; have HB := n1_; clear n0_ n1_; (try clear hb); (try clear hb2); (try clear hk); (try clear hi)))
            go_meet
            case rel => exact ⟨_, (false), (by first | rfl | (simp; done) | (simp [*]; done)), H', ⟨by first | omega | exact Nat.le_refl _⟩, ⟨by repeat (first | (with_reducible first | exact HB.out | apply below_alloc | apply pw_below_drewN | apply below_drew1) | exact HB.out)⟩⟩
          · rw [if_neg c122] at H
            have c122b0 : (t318 == t322) = false := beq_eq_false_iff_ne.mpr c122
            have c122b1 : (t318 != t322) = true := bne_iff_ne.mpr c122
            (first | rw [c122b0] | (simp only [i64_w, i32_w]; rw [c122b0]) | skip)
            have H' := Aside0.mk H
            clear H
            go_wp2_with (first | ((with_reducible refine gate_callee (f := 25) rfl ?_); refine goesL_ (some 24) rfl rfl Try.func25 (by kernel_rfl) rfl #[.slice A0 l0.length c0] rfl (by (try simp only [List.map_toArray, List.map_cons, List.map_nil]); first | done | rfl | (simp only [List.length_drop, List.length_take]; rfl)) ?_; (with_reducible refine (cotillionlaw09_Told.calls k _ _ l0 t319 _ ?side1 ?side2 A120.out).mono ?_); (case side1 => repeat (first | exact (Kd.C_below HR0.out HB.out) | (with_reducible refine Kd.C_alloc ?_ _) | (with_reducible refine Kd.C_drewN ?_ _) | (with_reducible refine Kd.C_drew ?_))); (case side2 => exact HC0.out); rintro e w126 ⟨v320, rfl, ho0, hb⟩; refine ⟨_, rfl, ?_⟩; have n0_ := Aside0.mk (Kd.R_lower ho0 (below_size (by repeat (first | (with_reducible first | exact HB.out | apply below_alloc | apply pw_below_drewN | apply below_drew1) | exact HB.out)))); have n1_ := Aside0.mk (below_step (by repeat (first | (with_reducible first | exact HB.out | apply below_alloc | apply pw_below_drewN | apply below_drew1) | exact HB.out)) hb); clear HB; have HO321 := n0_; have HB := n1_; clear n0_ n1_; (try clear hb); (try clear hb2); (try clear hk); (try clear hi); (try clear ho0); obtain ⟨Ao127, co127, eo127⟩ := Kd.R_slice HO321.out; subst eo127) | ((with_reducible refine gate_callee (f := 31) rfl ?_); refine goesL_ (some 25) rfl rfl Try.func31 (by kernel_rfl) rfl #[.slice Ao127 t319.length co127] rfl (by (try simp only [List.map_toArray, List.map_cons, List.map_nil]); first | done | rfl | (simp only [List.length_drop, List.length_take]; rfl)) ?_; (with_reducible refine (cotillionref09_CheckAll.calls k _ _ t319 t322 _ ?side1 ?side2 A121.out).mono ?_); (case side1 => repeat (first | exact (Kd.R_reads' HO321.out).2.2 | (with_reducible refine Kd.C_alloc ?_ _) | (with_reducible refine Kd.C_drewN ?_ _) | (with_reducible refine Kd.C_drew ?_))); (case side2 => exact (Kd.R_reads' HO321.out).2.1); rintro e w128 ⟨rfl, hb⟩; refine ⟨_, rfl, ?_⟩; have n0_ := Aside0.mk (Kd.R_below (by (with_reducible repeat (first | apply Kd.R_alloc | apply Kd.R_drewN | apply Kd.R_drew)); exact HO321.out) hb); have n1_ := Aside0.mk (below_step (by repeat (first | (with_reducible first | exact HB.out | apply below_alloc | apply pw_below_drewN | apply below_drew1) | exact HB.out)) hb); clear HO321; clear HB; have HO321 := n0_; have HB := n1_; clear n0_ n1_; (try clear hb); (try clear hb2); (try clear hk); (try clear hi)))
            go_meet
            case rel => exact ⟨_, (true), (by first | rfl | (simp; done) | (simp [*]; done)), H', ⟨by first | omega | exact Nat.le_refl _⟩, ⟨by repeat (first | (with_reducible first | exact HB.out | apply below_alloc | apply pw_below_drewN | apply below_drew1) | exact HB.out)⟩⟩
        case rest =>
          clear HC117
          try clear c1
          try clear q1
          try clear c2
          try clear p2
          try clear c3
          try clear c4
          try clear q4
          try clear c5
          try clear c5b0
          try clear c5b1
          try clear c6
          try clear c6b0
          try clear c6b1
          try clear c7
          try clear c8
          try clear c9
          try clear c10
          try clear c12
          try clear q12
          try clear c18
          try clear c18b0
          try clear c18b1
          try clear c21
          try clear c22
          try clear c23
          try clear c25
          try clear c26
          try clear c26b0
          try clear c26b1
          try clear c30
          try clear c31
          try clear c32
          try clear c32b0
          try clear c32b1
          try clear c33
          try clear c33b0
          try clear c33b1
          try clear q48
          try clear c52
          try clear c52b0
          try clear c52b1
          try clear c59
          try clear c60
          try clear c60b0
          try clear c60b1
          try clear c66
          try clear c66b0
          try clear c66b1
          try clear c67
          try clear c67b0
          try clear c67b1
          try clear c79
          try clear c89
          try clear c89b0
          try clear c89b1
          try clear c96
          try clear c97
          try clear c97b0
          try clear c97b1
          try clear c103
          try clear c103b0
          try clear c103b1
          try clear c104
          try clear c104b0
          try clear c104b1
          try clear c122
          try clear c122b0
          try clear c122b1
          try clear p2
          try clear q1
          try clear q12
          try clear q4
          try clear q48
          obtain ⟨kq, x33_116, rfl, HA, HJ116, HB⟩ := hcut
          cases kq with
          | zero => exact absurd HA.out (by simp [cotillionlaw09_OrderTexts.j3])
          | succ kj116 =>
            have H := HA.out
            clear HA
            simp only [cotillionlaw09_OrderTexts.j3] at H
            by_cases c129 : x33_116 = true
            · subst c129
              have H1 : (some false) = some r := by rw [if_pos rfl] at H; exact H
              clear H
              have H := H1
              clear H1
              obtain rfl := Option.some.inj H
              exact absurd ht_ (by decide)
            · replace c129 := Bool.eq_false_iff.mpr c129
              subst c129
              have H1 : (if t318 = 0 then ((order_Batch_Text.f l0).bind fun t323 => ((order_Parse.f kj116 t323).bind fun bt324 => ((order_Batch_Text.f l0).bind fun t328 => ((cotillionlaw09_Told.f kj116 l0).bind fun t329 => ((cotillionref09_Text.f kj116 t329).bind fun t332 => (if t328.toList = t332.toList then (if bt324.2 = 0 then ((cotillionlaw09_Told.f kj116 l0).bind fun t333 => ((cotillionlaw09_Same.f kj116 bt324.1 t333).bind fun t336 => (some (t336 == 0)))) else (some false)) else (some false))))))) else (some true)) = some r := by rw [if_neg (show ¬ (false = true) by decide)] at H; exact H
              clear H
              have H := H1
              clear H1
              by_cases c130 : t318 = 0
              · rw [if_pos c130] at H
                have c130b0 : (t318 == 0) = true := beq_iff_eq.mpr c130
                have c130b1 : (t318 != 0) = false := bne_eq_false_iff_eq.mpr c130
                clear c130
                replace H := Option.bind_eq_some_iff.mp H
                obtain ⟨t323, A1310, H⟩ := H
                replace H : ((order_Parse.f kj116 t323).bind fun bt324 => ((order_Batch_Text.f l0).bind fun t328 => ((cotillionlaw09_Told.f kj116 l0).bind fun t329 => ((cotillionref09_Text.f kj116 t329).bind fun t332 => (if t328.toList = t332.toList then (if bt324.2 = 0 then ((cotillionlaw09_Told.f kj116 l0).bind fun t333 => ((cotillionlaw09_Same.f kj116 bt324.1 t333).bind fun t336 => (some (t336 == 0)))) else (some false)) else (some false)))))) = some r := H
                have A131 := Aside0.mk A1310
                clear A1310
                replace H := Option.bind_eq_some_iff.mp H
                obtain ⟨⟨t324, t325⟩, A1320, H⟩ := H
                replace H : ((order_Batch_Text.f l0).bind fun t328 => ((cotillionlaw09_Told.f kj116 l0).bind fun t329 => ((cotillionref09_Text.f kj116 t329).bind fun t332 => (if t328.toList = t332.toList then (if t325 = 0 then ((cotillionlaw09_Told.f kj116 l0).bind fun t333 => ((cotillionlaw09_Same.f kj116 t324 t333).bind fun t336 => (some (t336 == 0)))) else (some false)) else (some false))))) = some r := H
                have A132 := Aside0.mk A1320
                clear A1320
                replace H := Option.bind_eq_some_iff.mp H
                obtain ⟨t328, A1330, H⟩ := H
                replace H : ((cotillionlaw09_Told.f kj116 l0).bind fun t329 => ((cotillionref09_Text.f kj116 t329).bind fun t332 => (if t328.toList = t332.toList then (if t325 = 0 then ((cotillionlaw09_Told.f kj116 l0).bind fun t333 => ((cotillionlaw09_Same.f kj116 t324 t333).bind fun t336 => (some (t336 == 0)))) else (some false)) else (some false)))) = some r := H
                have A133 := Aside0.mk A1330
                clear A1330
                replace H := Option.bind_eq_some_iff.mp H
                obtain ⟨t329, A1340, H⟩ := H
                replace H : ((cotillionref09_Text.f kj116 t329).bind fun t332 => (if t328.toList = t332.toList then (if t325 = 0 then ((cotillionlaw09_Told.f kj116 l0).bind fun t333 => ((cotillionlaw09_Same.f kj116 t324 t333).bind fun t336 => (some (t336 == 0)))) else (some false)) else (some false))) = some r := H
                have A134 := Aside0.mk A1340
                clear A1340
                replace H := Option.bind_eq_some_iff.mp H
                obtain ⟨t332, A1350, H⟩ := H
                replace H : (if t328.toList = t332.toList then (if t325 = 0 then ((cotillionlaw09_Told.f kj116 l0).bind fun t333 => ((cotillionlaw09_Same.f kj116 t324 t333).bind fun t336 => (some (t336 == 0)))) else (some false)) else (some false)) = some r := H
                have A135 := Aside0.mk A1350
                clear A1350
                by_cases c136 : t328.toList = t332.toList
                · rw [if_pos c136] at H
                  have c136b0 : (t328.toList == t332.toList) = true := beq_iff_eq.mpr c136
                  have c136b1 : (t328.toList != t332.toList) = false := bne_eq_false_iff_eq.mpr c136
                  clear c136
                  by_cases c137 : t325 = 0
                  · rw [if_pos c137] at H
                    have c137b0 : (t325 == 0) = true := beq_iff_eq.mpr c137
                    have c137b1 : (t325 != 0) = false := bne_eq_false_iff_eq.mpr c137
                    clear c137
                    replace H := Option.bind_eq_some_iff.mp H
                    obtain ⟨t333, A1380, H⟩ := H
                    replace H : ((cotillionlaw09_Same.f kj116 t324 t333).bind fun t336 => (some (t336 == 0))) = some r := H
                    have A138 := Aside0.mk A1380
                    clear A1380
                    replace H := Option.bind_eq_some_iff.mp H
                    obtain ⟨t336, A1390, H⟩ := H
                    replace H : (some (t336 == 0)) = some r := H
                    have A139 := Aside0.mk A1390
                    clear A1390
                    obtain rfl := Option.some.inj H
                    clear ht_
                    go_wp2_with (first | ((with_reducible refine gate_callee (f := 23) rfl ?_); refine goesL_ (some 38) rfl rfl Try.func23 (by kernel_rfl) rfl #[.slice A0 l0.length c0] rfl (by (try simp only [List.map_toArray, List.map_cons, List.map_nil]); first | done | rfl | (simp only [List.length_drop, List.length_take]; rfl)) ?_; (with_reducible refine (order_Batch_Text.calls _ _ l0 t323 _ ?side1 ?side2 A131.out).mono ?_); (case side1 => repeat (first | exact (Kd.C_below HR0.out HB.out) | (with_reducible refine Kd.C_alloc ?_ _) | (with_reducible refine Kd.C_drewN ?_ _) | (with_reducible refine Kd.C_drew ?_))); (case side2 => exact HC0.out); rintro e w140 ⟨rfl, hb⟩; refine ⟨_, rfl, ?_⟩; have n0_ := Aside0.mk (below_step (by repeat (first | (with_reducible first | exact HB.out | apply below_alloc | apply pw_below_drewN | apply below_drew1) | exact HB.out)) hb); clear HB; have HB := n0_; clear n0_; (try clear hb); (try clear hb2); (try clear hk); (try clear hi)) | ((with_reducible refine gate_callee (f := 26) rfl ?_); refine goesL_ (some 39) rfl rfl Try.func26 (by kernel_rfl) rfl #[.string t323] rfl (by (try simp only [List.map_toArray, List.map_cons, List.map_nil]); first | done | rfl | (simp only [List.length_drop, List.length_take]; rfl)) ?_; (with_reducible refine (order_Parse.calls kj116 t323 t324 t325 _ A132.out).mono ?_); rintro e w141 ⟨v326, rfl, ho0, hb⟩; refine ⟨_, rfl, ?_⟩; have n0_ := Aside0.mk (Kd.R_lower ho0 (below_size (by repeat (first | (with_reducible first | exact HB.out | apply below_alloc | apply pw_below_drewN | apply below_drew1) | exact HB.out)))); have n1_ := Aside0.mk (below_step (by repeat (first | (with_reducible first | exact HB.out | apply below_alloc | apply pw_below_drewN | apply below_drew1) | exact HB.out)) hb); clear HB; have HO327 := n0_; have HB := n1_; clear n0_ n1_; (try clear hb); (try clear hb2); (try clear hk); (try clear hi); (try clear ho0)) | ((with_reducible refine gate_callee (f := 23) rfl ?_); refine goesL_ (some 43) rfl rfl Try.func23 (by kernel_rfl) rfl #[.slice A0 l0.length c0] rfl (by (try simp only [List.map_toArray, List.map_cons, List.map_nil]); first | done | rfl | (simp only [List.length_drop, List.length_take]; rfl)) ?_; (with_reducible refine (order_Batch_Text.calls _ _ l0 t328 _ ?side1 ?side2 A133.out).mono ?_); (case side1 => repeat (first | exact (Kd.C_below HR0.out HB.out) | (with_reducible refine Kd.C_alloc ?_ _) | (with_reducible refine Kd.C_drewN ?_ _) | (with_reducible refine Kd.C_drew ?_))); (case side2 => exact HC0.out); rintro e w142 ⟨rfl, hb⟩; refine ⟨_, rfl, ?_⟩; have n0_ := Aside0.mk (Kd.R_below (by (with_reducible repeat (first | apply Kd.R_alloc | apply Kd.R_drewN | apply Kd.R_drew)); exact HO327.out) hb); have n1_ := Aside0.mk (below_step (by repeat (first | (with_reducible first | exact HB.out | apply below_alloc | apply pw_below_drewN | apply below_drew1) | exact HB.out)) hb); clear HO327; clear HB; have HO327 := n0_; have HB := n1_; clear n0_ n1_; (try clear hb); (try clear hb2); (try clear hk); (try clear hi)) | ((with_reducible refine gate_callee (f := 25) rfl ?_); refine goesL_ (some 45) rfl rfl Try.func25 (by kernel_rfl) rfl #[.slice A0 l0.length c0] rfl (by (try simp only [List.map_toArray, List.map_cons, List.map_nil]); first | done | rfl | (simp only [List.length_drop, List.length_take]; rfl)) ?_; (with_reducible refine (cotillionlaw09_Told.calls kj116 _ _ l0 t329 _ ?side1 ?side2 A134.out).mono ?_); (case side1 => repeat (first | exact (Kd.C_below HR0.out HB.out) | (with_reducible refine Kd.C_alloc ?_ _) | (with_reducible refine Kd.C_drewN ?_ _) | (with_reducible refine Kd.C_drew ?_))); (case side2 => exact HC0.out); rintro e w143 ⟨v330, rfl, ho0, hb⟩; refine ⟨_, rfl, ?_⟩; have n0_ := Aside0.mk (Kd.R_below (by (with_reducible repeat (first | apply Kd.R_alloc | apply Kd.R_drewN | apply Kd.R_drew)); exact HO327.out) hb); have n1_ := Aside0.mk (Kd.R_lower ho0 (below_size (by repeat (first | (with_reducible first | exact HB.out | apply below_alloc | apply pw_below_drewN | apply below_drew1) | exact HB.out)))); have n2_ := Aside0.mk (below_step (by repeat (first | (with_reducible first | exact HB.out | apply below_alloc | apply pw_below_drewN | apply below_drew1) | exact HB.out)) hb); clear HO327; clear HB; have HO327 := n0_; have HO331 := n1_; have HB := n2_; clear n0_ n1_ n2_; (try clear hb); (try clear hb2); (try clear hk); (try clear hi); (try clear ho0); obtain ⟨Ao144, co144, eo144⟩ := Kd.R_slice HO331.out; subst eo144) | ((with_reducible refine gate_callee (f := 32) rfl ?_); refine goesL_ (some 46) rfl rfl Try.func32 (by kernel_rfl) rfl #[.slice Ao144 t329.length co144] rfl (by (try simp only [List.map_toArray, List.map_cons, List.map_nil]); first | done | rfl | (simp only [List.length_drop, List.length_take]; rfl)) ?_; (with_reducible refine (cotillionref09_Text.calls kj116 _ _ t329 t332 _ ?side1 ?side2 A135.out).mono ?_); (case side1 => repeat (first | exact (Kd.R_reads' HO331.out).2.2 | (with_reducible refine Kd.C_alloc ?_ _) | (with_reducible refine Kd.C_drewN ?_ _) | (with_reducible refine Kd.C_drew ?_))); (case side2 => exact (Kd.R_reads' HO331.out).2.1); rintro e w145 ⟨rfl, hb⟩; refine ⟨_, rfl, ?_⟩; have n0_ := Aside0.mk (Kd.R_below (by (with_reducible repeat (first | apply Kd.R_alloc | apply Kd.R_drewN | apply Kd.R_drew)); exact HO327.out) hb); have n1_ := Aside0.mk (Kd.R_below (by (with_reducible repeat (first | apply Kd.R_alloc | apply Kd.R_drewN | apply Kd.R_drew)); exact HO331.out) hb); have n2_ := Aside0.mk (below_step (by repeat (first | (with_reducible first | exact HB.out | apply below_alloc | apply pw_below_drewN | apply below_drew1) | exact HB.out)) hb); clear HO327; clear HO331; clear HB; have HO327 := n0_; have HO331 := n1_; have HB := n2_; clear n0_ n1_ n2_; (try clear hb); (try clear hb2); (try clear hk); (try clear hi)) | (go_at_call 25; (with_reducible refine (cotillionlaw09_Told.calls kj116 _ _ l0 t333 _ ?side1 ?side2 A138.out).mono ?_); (case side1 => repeat (first | exact (Kd.C_below HR0.out HB.out) | (with_reducible refine Kd.C_alloc ?_ _) | (with_reducible refine Kd.C_drewN ?_ _) | (with_reducible refine Kd.C_drew ?_))); (case side2 => exact HC0.out); rintro e w146 ⟨v334, rfl, ho0, hb⟩; have n0_ := Aside0.mk (Kd.R_below (by (with_reducible repeat (first | apply Kd.R_alloc | apply Kd.R_drewN | apply Kd.R_drew)); exact HO327.out) hb); have n1_ := Aside0.mk (Kd.R_elder' (by (with_reducible repeat (first | apply Kd.R_alloc | apply Kd.R_drewN | apply Kd.R_drew)); exact HO331.out) (Kd.R_base ho0) hb); have n2_ := Aside0.mk (Kd.R_lower (Kd.R_new' ho0 (Kd.R_lt (by (with_reducible repeat (first | apply Kd.R_alloc | apply Kd.R_drewN | apply Kd.R_drew)); exact HO331.out))) (below_size (by repeat (first | (with_reducible first | exact HB.out | apply below_alloc | apply pw_below_drewN | apply below_drew1) | exact HB.out)))); have n3_ := Aside0.mk (below_step (by repeat (first | (with_reducible first | exact HB.out | apply below_alloc | apply pw_below_drewN | apply below_drew1) | exact HB.out)) hb); clear HO327; clear HO331; clear HB; have HO327 := n0_; have HO331 := n1_; have HO335 := n2_; have HB := n3_; clear n0_ n1_ n2_ n3_; (try clear hb); (try clear hb2); (try clear hk); (try clear hi); (try clear ho0); obtain ⟨Ao147, co147, eo147⟩ := Kd.R_slice HO327.out; subst eo147; obtain ⟨Ao148, co148, eo148⟩ := Kd.R_slice HO335.out; subst eo148) | (go_at_call 24; (with_reducible refine (cotillionlaw09_Same.calls kj116 _ _ t324 _ _ t333 t336 _ ?side1 ?side2 ?side3 ?side4 A139.out).mono ?_); (case side1 => repeat (first | exact (Kd.R_reads' HO327.out).2.2 | (with_reducible refine Kd.C_alloc ?_ _) | (with_reducible refine Kd.C_drewN ?_ _) | (with_reducible refine Kd.C_drew ?_))); (case side2 => exact (Kd.R_reads' HO327.out).2.1); (case side3 => repeat (first | exact (Kd.R_reads' HO335.out).2.2 | (with_reducible refine Kd.C_alloc ?_ _) | (with_reducible refine Kd.C_drewN ?_ _) | (with_reducible refine Kd.C_drew ?_))); (case side4 => exact (Kd.R_reads' HO335.out).2.1); rintro e w' ⟨rfl, ⟨nd, rfl⟩⟩))
                    go_ret
                    exact ⟨by first | rfl | (simp [errW_none, errW_some] <;> rfl) | (simp [*, errW_none, errW_some] <;> rfl), by repeat (first | (with_reducible first | exact HB.out | apply below_alloc | apply pw_below_drewN | apply below_drew1) | exact HB.out)⟩
                  · rw [if_neg c137] at H
                    have c137b0 : (t325 == 0) = false := beq_eq_false_iff_ne.mpr c137
                    have c137b1 : (t325 != 0) = true := bne_iff_ne.mpr c137
                    obtain rfl := Option.some.inj H
                    exact absurd ht_ (by decide)
                · rw [if_neg c136] at H
                  have c136b0 : (t328.toList == t332.toList) = false := beq_eq_false_iff_ne.mpr c136
                  have c136b1 : (t328.toList != t332.toList) = true := bne_iff_ne.mpr c136
                  obtain rfl := Option.some.inj H
                  exact absurd ht_ (by decide)
              · rw [if_neg c130] at H
                have c130b0 : (t318 == 0) = false := beq_eq_false_iff_ne.mpr c130
                have c130b1 : (t318 != 0) = true := bne_iff_ne.mpr c130
                obtain rfl := Option.some.inj H
                clear ht_
                go_wp2
                go_ret
                exact ⟨by first | rfl | (simp [errW_none, errW_some] <;> rfl) | (simp [*, errW_none, errW_some] <;> rfl), by repeat (first | (with_reducible first | exact HB.out | apply below_alloc | apply pw_below_drewN | apply below_drew1) | exact HB.out)⟩
  · replace c4 := Bool.eq_false_iff.mpr c4
    subst c4
    have H1 : (some false) = some r := by rw [if_neg (show ¬ (false = true) by decide)] at H; exact H
    clear H
    have H := H1
    clear H1
    obtain rfl := Option.some.inj H
    exact absurd ht_ (by decide)

end Go.Proofs.Ytfhckddfmlljfaa.QOrderTexts
