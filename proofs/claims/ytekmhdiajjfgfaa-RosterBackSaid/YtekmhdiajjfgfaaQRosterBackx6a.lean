/- Written by a program for this claim (see NOTES.md of the claims' repo). Mirrors, as plain Lean functions, of Go functions that the law RosterBack reaches, and proofs that the calls come to what these say. No conditions. -/
import Derived.Test.YtekmhdiajjfgfaaQRosterBackx0
import Derived.Test.YtekmhdiajjfgfaaQRosterBackx2
import Derived.Test.YtekmhdiajjfgfaaQRosterBackx4
import Derived.Test.YtekmhdiajjfgfaaQRosterBackx5
namespace Go.Proofs.Ytekmhdiajjfgfaa.QRosterBack
open Go.RowKit Go.Proofs.YtekmhdiajjfgfaaW.PrintWords Go.Proofs.YtekmhdiajjfgfaaW.PrintLast Go.Proofs.YtekmhdiajjfgfaaW.PrintMore
attribute [local go_sem] max2_int min2_int max_two min_two max_three min_three max_four min_four   -- for this text's walks alone
set_option linter.unusedVariables false
set_option linter.unusedSimpArgs false

/-! ### cotillionlaw18_RosterBack: function 4 -/
mutual
def cotillionlaw18_RosterBack.j0 : Nat → Int → Int → Int → Int → Int → Int → Option (Bool)
  | 0, _, _, _, _, _, _ => none
  | k + 1, x181000, x181001, x182000, x182001, x183000, x183001 => (roster_Roster_With.f k x181000 x181001 (([(⟨x182000, x182001, ([] : List Int)⟩ : S46), (⟨x183000, x183001, ([] : List Int)⟩ : S46)] : List (S46)))).bind fun bt187 => ((roster_Roster_With.f k x181000 x181001 (([(⟨x182000, x182001, ([] : List Int)⟩ : S46), (⟨x182000, x182001, ([] : List Int)⟩ : S46)] : List (S46)))).bind fun bt194 => (if bt187.2.2 = 0 then ((roster_Roster_All.f k bt187.1 bt187.2.1).bind fun t198 => ((roster_Roster_All.f k x181000 x181001).bind fun t201 => ((cotillionlaw18_Same.f k t198 t201).bind fun t204 => (if t204 = 0 then ((roster_Roster_Epoch.f bt187.1 bt187.2.1).bind fun t205 => (if t205 = 2 then ((roster_Roster_Same.f k bt187.1 bt187.2.1 x181000 x181001).bind fun t206 => (if t206 = true then (some false) else (if bt194.2.2 = 10 then (some true) else (some (bt194.2.2 == 13))))) else (some false))) else (some false))))) else (some false)))
def cotillionlaw18_RosterBack.j1 : Nat → Int → Int → Int → Int → Int → Int → Option (Bool)
  | 0, _, _, _, _, _, _ => none
  | k + 1, x210000, x210001, x211000, x211001, x212000, x212001 => (roster_Roster_With.f k x210000 x210001 (([(⟨x211000, x211001, ([] : List Int)⟩ : S46), (⟨x212000, x212001, ([] : List Int)⟩ : S46)] : List (S46)))).bind fun bt216 => ((roster_Roster_With.f k x210000 x210001 (([(⟨x211000, x211001, ([] : List Int)⟩ : S46), (⟨x211000, x211001, ([] : List Int)⟩ : S46)] : List (S46)))).bind fun bt223 => (if bt216.2.2 = 0 then ((roster_Roster_All.f k bt216.1 bt216.2.1).bind fun t227 => ((roster_Roster_All.f k x210000 x210001).bind fun t230 => ((cotillionlaw18_Same.f k t227 t230).bind fun t233 => (if t233 = 0 then ((roster_Roster_Epoch.f bt216.1 bt216.2.1).bind fun t234 => (if t234 = 2 then ((roster_Roster_Same.f k bt216.1 bt216.2.1 x210000 x210001).bind fun t235 => (if t235 = true then (some false) else (if bt223.2.2 = 10 then (some true) else (some (bt223.2.2 == 13))))) else (some false))) else (some false))))) else (some false)))
end
def cotillionlaw18_RosterBack.f (k : Nat) (l0 : List Int) (a1 : Int) : Option (Bool) := (cotillionlaw18_awake.f k).bind fun t176 => (if t176 = true then (if (l0.length : Int) > 40 then (if 40 ≤ (l0.length : Int) then ((roster_Of.f k (l0.take 40)).bind fun bt178 => ((roster_Roster_Has.f bt178.1 bt178.2 (wrap64 (1 + (Int.tmod (Go.bits .and .i64 a1 255) 31)))).bind fun t183 => (if t183 = true then (cotillionlaw18_RosterBack.j0 k bt178.1 bt178.2 2 (wrap64 (1 + (Int.tmod (Go.bits .and .i64 a1 255) 31))) 1 (wrap64 (1 + (Int.tmod (Go.bits .and .i64 a1 255) 31)))) else (cotillionlaw18_RosterBack.j0 k bt178.1 bt178.2 1 (wrap64 (1 + (Int.tmod (Go.bits .and .i64 a1 255) 31))) 2 (wrap64 (1 + (Int.tmod (Go.bits .and .i64 a1 255) 31))))))) else (none)) else ((roster_Of.f k l0).bind fun bt207 => ((roster_Roster_Has.f bt207.1 bt207.2 (wrap64 (1 + (Int.tmod (Go.bits .and .i64 a1 255) 31)))).bind fun t212 => (if t212 = true then (cotillionlaw18_RosterBack.j1 k bt207.1 bt207.2 2 (wrap64 (1 + (Int.tmod (Go.bits .and .i64 a1 255) 31))) 1 (wrap64 (1 + (Int.tmod (Go.bits .and .i64 a1 255) 31)))) else (cotillionlaw18_RosterBack.j1 k bt207.1 bt207.2 1 (wrap64 (1 + (Int.tmod (Go.bits .and .i64 a1 255) 31))) 2 (wrap64 (1 + (Int.tmod (Go.bits .and .i64 a1 255) 31)))))))) else (some false))
theorem cotillionlaw18_RosterBack.mono_l : ∀ k, (∀ y0 y1 y2 y3 y4 y5, LeO (cotillionlaw18_RosterBack.j0 k y0 y1 y2 y3 y4 y5) (cotillionlaw18_RosterBack.j0 (k + 1) y0 y1 y2 y3 y4 y5)) ∧ (∀ y0 y1 y2 y3 y4 y5, LeO (cotillionlaw18_RosterBack.j1 k y0 y1 y2 y3 y4 y5) (cotillionlaw18_RosterBack.j1 (k + 1) y0 y1 y2 y3 y4 y5))
  | 0 => ⟨fun _ _ _ _ _ _ r h => by simp [cotillionlaw18_RosterBack.j0] at h, fun _ _ _ _ _ _ r h => by simp [cotillionlaw18_RosterBack.j1] at h⟩
  | k + 1 => by
    obtain ⟨ih0, ih1⟩ := cotillionlaw18_RosterBack.mono_l k
    refine ⟨?_, ?_⟩
    · intro y0 y1 y2 y3 y4 y5
      unfold cotillionlaw18_RosterBack.j0
      repeat' first
      | (with_reducible exact ih0 _ _ _ _ _ _)
      | (with_reducible exact ih1 _ _ _ _ _ _)
      | (with_reducible exact cotillionlaw18_Same.mono _ _ _)
      | (with_reducible exact cotillionlaw18_awake.mono _)
      | (with_reducible exact roster_Of.mono _ _)
      | (with_reducible exact roster_Roster_All.mono _ _ _)
      | (with_reducible exact roster_Roster_Same.mono _ _ _ _ _)
      | (with_reducible exact roster_Roster_With.mono _ _ _ _)
      | (with_reducible exact LeO.refl _)
      | (with_reducible exact LeO.none _)
      | (with_reducible refine LeO.ite ?_ ?_)
      | (with_reducible refine LeO.bind ?_ (fun _ => ?_))
      | exact ih0 _ _ _ _ _ _
      | exact ih1 _ _ _ _ _ _
      | exact cotillionlaw18_Same.mono _ _ _
      | exact cotillionlaw18_awake.mono _
      | exact roster_Of.mono _ _
      | exact roster_Roster_All.mono _ _ _
      | exact roster_Roster_Same.mono _ _ _ _ _
      | exact roster_Roster_With.mono _ _ _ _
      | exact LeO.none _
      | refine LeO.ite ?_ ?_
      | refine LeO.bind ?_ (fun _ => ?_)
    · intro y0 y1 y2 y3 y4 y5
      unfold cotillionlaw18_RosterBack.j1
      repeat' first
      | (with_reducible exact ih0 _ _ _ _ _ _)
      | (with_reducible exact ih1 _ _ _ _ _ _)
      | (with_reducible exact cotillionlaw18_Same.mono _ _ _)
      | (with_reducible exact cotillionlaw18_awake.mono _)
      | (with_reducible exact roster_Of.mono _ _)
      | (with_reducible exact roster_Roster_All.mono _ _ _)
      | (with_reducible exact roster_Roster_Same.mono _ _ _ _ _)
      | (with_reducible exact roster_Roster_With.mono _ _ _ _)
      | (with_reducible exact LeO.refl _)
      | (with_reducible exact LeO.none _)
      | (with_reducible refine LeO.ite ?_ ?_)
      | (with_reducible refine LeO.bind ?_ (fun _ => ?_))
      | exact ih0 _ _ _ _ _ _
      | exact ih1 _ _ _ _ _ _
      | exact cotillionlaw18_Same.mono _ _ _
      | exact cotillionlaw18_awake.mono _
      | exact roster_Of.mono _ _
      | exact roster_Roster_All.mono _ _ _
      | exact roster_Roster_Same.mono _ _ _ _ _
      | exact roster_Roster_With.mono _ _ _ _
      | exact LeO.none _
      | refine LeO.ite ?_ ?_
      | refine LeO.bind ?_ (fun _ => ?_)
theorem cotillionlaw18_RosterBack.mono : ∀ a0 a1 k, LeO (cotillionlaw18_RosterBack.f k a0 a1) (cotillionlaw18_RosterBack.f (k + 1) a0 a1) := by
  intro a0 a1 k
  obtain ⟨ih0, ih1⟩ := cotillionlaw18_RosterBack.mono_l k
  unfold cotillionlaw18_RosterBack.f
  repeat' first
      | (with_reducible exact ih0 _ _ _ _ _ _)
      | (with_reducible exact ih1 _ _ _ _ _ _)
      | (with_reducible exact cotillionlaw18_Same.mono _ _ _)
      | (with_reducible exact cotillionlaw18_awake.mono _)
      | (with_reducible exact roster_Of.mono _ _)
      | (with_reducible exact roster_Roster_All.mono _ _ _)
      | (with_reducible exact roster_Roster_Same.mono _ _ _ _ _)
      | (with_reducible exact roster_Roster_With.mono _ _ _ _)
      | (with_reducible exact LeO.refl _)
      | (with_reducible exact LeO.none _)
      | (with_reducible refine LeO.ite ?_ ?_)
      | (with_reducible refine LeO.bind ?_ (fun _ => ?_))
      | exact ih0 _ _ _ _ _ _
      | exact ih1 _ _ _ _ _ _
      | exact cotillionlaw18_Same.mono _ _ _
      | exact cotillionlaw18_awake.mono _
      | exact roster_Of.mono _ _
      | exact roster_Roster_All.mono _ _ _
      | exact roster_Roster_Same.mono _ _ _ _ _
      | exact roster_Roster_With.mono _ _ _ _
      | exact LeO.none _
      | refine LeO.ite ?_ ?_
      | refine LeO.bind ?_ (fun _ => ?_)
def cotillionlaw18_RosterBack.T12 : Bool × List (List Nat × List Nat) := (true, [([], []), ([0], [0]), ([1], [1]), ([2], [2]), ([3, 2, 2], [2, 3]), ([2], [2]), ([5, 4, 2], [2, 5]), ([4, 6, 6, 2], [2, 4, 6]), ([7, 2], [2, 7]), ([2, 8], [2, 8]), ([9, 7], [9]), ([10], [10]), ([11, 10, 10], [10, 11]), ([12, 10], [10, 12]), ([10, 13], [10, 13]), ([14, 12], [14]), ([15], [15]), ([15], [15]), ([16, 17, 15, 15], [15, 16, 17]), ([18, 15], [15, 18]), ([15, 19], [15, 19]), ([20, 18], [20]), ([21], [21]), ([22, 21], [21, 22]), ([23, 21, 21], [21, 23]), ([24], [24]), ([25, 24], [24, 25]), ([24, 26, 21], [21, 24, 26]), ([21, 27], [21, 27]), ([28, 24, 0, 1, 2, 3, 4, 5, 6, 7, 8, 9, 10, 11, 12, 13, 14, 15, 16, 17, 18, 19, 20, 21, 22, 23, 24, 25, 26, 27, 28], [28])])
def cotillionlaw18_RosterBack.B12 : List Nat := [0, 1, 3, 7, 15, 7, 63, 127, 255, 511, 1023, 2047, 4095, 8191, 16383, 32767, 65535, 65535, 262143, 524287, 1048575, 2097151, 4194303, 8388607, 16777215, 33554431, 67108863, 134217727, 268435455, 536870911]
theorem cotillionlaw18_RosterBack.tab12 : rtab .any (opsOf Try.f4 12) = cotillionlaw18_RosterBack.T12 := by kernel_rfl
theorem cotillionlaw18_RosterBack.bits12 : waitsOk cotillionlaw18_RosterBack.T12.2 cotillionlaw18_RosterBack.B12 = true := by kernel_rfl
end Go.Proofs.Ytekmhdiajjfgfaa.QRosterBack
