/- Who joins and leaves again leaves all as it was, but for the epoch; nobody comes twice: the law's pure statement, for all players and every number. -/
import Derived.Test.YtekmhdiajjfgfaaQRosterBackx6
import Derived.Test.YtekmhdiajjfgfaaRob
import Derived.Test.YtekmhdiajjfgfaaNum
namespace Go.Proofs.Ytekmhdiajjfgfaa.Pure
open Go.Proofs.Ytekmhdiajjfgfaa Go.RowKit Go.Proofs.Ytekmhdiajjfgfaa.QRosterBack Go.Proofs.YtekmhdiajjfgfaaW.PrintWords Go.Proofs.YtekmhdiajjfgfaaW.PrintLast

theorem player_of (a : Int) : ∃ p : Nat, 0 < p ∧ p < 32 ∧ wrap64 (1 + (Int.tmod (Go.bits .and .i64 a 255) 31)) = (p : Int) := by
  have hb : 0 ≤ Go.bits .and .i64 a 255 ∧ Go.bits .and .i64 a 255 ≤ 255 := by
    rw [i64_and255]; omega
  generalize Go.bits .and .i64 a 255 = x at *
  have e : Int.tmod x 31 = x % 31 := Int.tmod_eq_emod_of_nonneg hb.1
  rw [e]
  refine ⟨(1 + x % 31).toNat, by omega, by omega, ?_⟩
  unfold wrap64; omega

theorem j_true (j : Nat → Int → Int → Int → Int → Int → Int → Option Bool) (hj : j = cotillionlaw18_RosterBack.j0 ∨ j = cotillionlaw18_RosterBack.j1) (K : Nat) (hK : 40 ≤ K) (m p : Nat) (hm : m < 4294967296) (hp : p < 32) (h0 : 0 < p) :
    j (K + 1) m 0 (if m.testBit p then 2 else 1) p (if m.testBit p then 1 else 2) p = some true := by
  have hab := at_rounds (g := fun k => roster_Roster_With.f k m 0 [chA (m.testBit p) p, chA (!m.testBit p) p]) (fun k => roster_Roster_With.mono _ _ _ k) (show 7 ≤ K by omega) (with_ab hm hp h0)
  have haa := at_rounds (g := fun k => roster_Roster_With.f k m 0 [chA (m.testBit p) p, chA (m.testBit p) p]) (fun k => roster_Roster_With.mono _ _ _ k) (show 7 ≤ K by omega) (with_aa hm hp h0)
  obtain ⟨r, hr, hall⟩ := all_some hm
  have h2 := at_rounds (g := fun k => roster_Roster_All.f k m 2) (fun k => roster_Roster_All.mono _ _ k) (show 33 ≤ K by omega) (hall 2)
  have h1 := at_rounds (g := fun k => roster_Roster_All.f k m 0) (fun k => roster_Roster_All.mono _ _ k) (show 33 ≤ K by omega) (hall 0)
  have hs := at_rounds (g := fun k => cotillionlaw18_Same.f k r r) (fun k => cotillionlaw18_Same.mono _ _ k) (show 33 ≤ K by omega) (same_self r hr)
  have hn := rsame_not (m : Int) K
  have ea : chA (m.testBit p) p = ⟨if m.testBit p then 2 else 1, p, []⟩ := by unfold chA; cases m.testBit p <;> rfl
  have eb : chA (!m.testBit p) p = ⟨if m.testBit p then 1 else 2, p, []⟩ := by unfold chA; cases m.testBit p <;> rfl
  rw [ea, eb] at hab
  rw [ea] at haa
  rcases hj with rfl | rfl
  · simp only [cotillionlaw18_RosterBack.j0]
    rw [hab]; simp only [Option.bind_some]
    rw [haa]; simp only [Option.bind_some]
    rw [if_pos trivial, h2]; simp only [Option.bind_some]
    rw [h1]; simp only [Option.bind_some]
    rw [hs]; simp only [Option.bind_some, roster_Roster_Epoch.f]
    rw [if_pos trivial, if_pos trivial, hn]; simp only [Option.bind_some]
    cases m.testBit p <;> rfl
  · simp only [cotillionlaw18_RosterBack.j1]
    rw [hab]; simp only [Option.bind_some]
    rw [haa]; simp only [Option.bind_some]
    rw [if_pos trivial, h2]; simp only [Option.bind_some]
    rw [h1]; simp only [Option.bind_some]
    rw [hs]; simp only [Option.bind_some, roster_Roster_Epoch.f]
    rw [if_pos trivial, if_pos trivial, hn]; simp only [Option.bind_some]
    cases m.testBit p <;> rfl

theorem RosterBack : cotillionlaw18_RosterBack.Pure := by
  intro l a _ hl _ _
  obtain ⟨p, h0, hp, he⟩ := player_of a
  by_cases hlen : (l.length : Int) > 40
  · obtain ⟨k, m, hm, hof⟩ := of_some (l.take 40) (by rw [List.length_take]; omega)
    refine ⟨k + 60, ?_⟩
    have haw := at_rounds (g := fun k => cotillionlaw18_awake.f k) (fun k => cotillionlaw18_awake.mono k) (show 12 ≤ k + 60 by omega) awake_true
    have hof' := at_rounds (g := fun k => roster_Of.f k (l.take 40)) (fun k => roster_Of.mono _ k) (show k ≤ k + 60 by omega) hof
    have hj := j_true cotillionlaw18_RosterBack.j0 (.inl rfl) (k + 59) (by omega) m p hm hp h0
    unfold cotillionlaw18_RosterBack.f
    rw [haw]; simp only [Option.bind_some]
    rw [if_pos trivial, if_pos hlen, if_pos (by omega), hof']; simp only [Option.bind_some]
    rw [he, has_is 0 hm hp]; simp only [Option.bind_some]
    cases hb : m.testBit p
    · rw [hb] at hj; simp only [Bool.false_eq_true, if_false] at hj ⊢; exact hj
    · rw [hb] at hj; simp only [if_true] at hj ⊢; exact hj
  · obtain ⟨k, m, hm, hof⟩ := of_some l (by omega)
    refine ⟨k + 60, ?_⟩
    have haw := at_rounds (g := fun k => cotillionlaw18_awake.f k) (fun k => cotillionlaw18_awake.mono k) (show 12 ≤ k + 60 by omega) awake_true
    have hof' := at_rounds (g := fun k => roster_Of.f k l) (fun k => roster_Of.mono _ k) (show k ≤ k + 60 by omega) hof
    have hj := j_true cotillionlaw18_RosterBack.j1 (.inr rfl) (k + 59) (by omega) m p hm hp h0
    unfold cotillionlaw18_RosterBack.f
    rw [haw]; simp only [Option.bind_some]
    rw [if_pos trivial, if_neg hlen, hof']; simp only [Option.bind_some]
    rw [he, has_is 0 hm hp]; simp only [Option.bind_some]
    cases hb : m.testBit p
    · rw [hb] at hj; simp only [Bool.false_eq_true, if_false] at hj ⊢; exact hj
    · rw [hb] at hj; simp only [if_true] at hj ⊢; exact hj
end Go.Proofs.Ytekmhdiajjfgfaa.Pure
