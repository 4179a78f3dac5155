/- The law WorldOrders: what the game does. -/
import Derived.Test.YtgkhedmjkahclaaUWTxt
namespace Go.Proofs.Ytgkhedmjkahclaa.TL
open Go
set_option linter.unusedVariables false
set_option linter.unusedSimpArgs false

theorem runK_step {I : List Fn} {S S' : St} {m : Nat} (h1 : S.n = 1) (h0 : S.trap = 0) (hs : stepS I S = S') : runK I (m + 1) S = ((runK I m S').1, (runK I m S').2.1 + 1, (runK I m S').2.2) := by
  rw [runK, if_pos ⟨h1, h0⟩, hs]
theorem runK_stop {I : List Fn} {S : St} {m : Nat} (h1 : S.n ≠ 1) : runK I m S = (S, 0, false) := by
  cases m with
  | zero => simp [runK, h1]
  | succ m => rw [runK, if_neg fun h => h1 h.1]

theorem run_turn (W : Wd) (t : Int) (m : Nat) {d r : Int} (hb : below W.dice 4 = (d, r)) (h : ¬ r = 0) : runK gameI (m + 5) (st0 gameI W 0 [t]) = (⟨{ W with dice := d }, ⟨0, 5, [], [t]⟩, 0, 0, W.tab.l.length⟩, 5, false) := by
  have s1 : stepS gameI (st0 gameI W 0 [t]) = ⟨W, ⟨0, 1, [4], [t]⟩, 1, 0, 0⟩ := rfl
  have s2 : stepS gameI ⟨W, ⟨0, 1, [4], [t]⟩, 1, 0, 0⟩ = ⟨{ W with dice := d }, ⟨0, 2, [r], [t]⟩, 1, 0, 0⟩ := by
    simp [stepS, stepX, gameI, gameTurn, popL, pushL, hb]
  have s3 : stepS gameI ⟨{ W with dice := d }, ⟨0, 2, [r], [t]⟩, 1, 0, 0⟩ = ⟨{ W with dice := d }, ⟨0, 3, [], [t]⟩, 1, 0, 0⟩ := by
    simp [stepS, stepX, gameI, gameTurn, popL, h]
  have s4 : stepS gameI ⟨{ W with dice := d }, ⟨0, 3, [], [t]⟩, 1, 0, 0⟩ = ⟨{ W with dice := d }, ⟨0, 4, [(W.tab.l.length : Int)], [t]⟩, 1, 0, 0⟩ := rfl
  have s5 : stepS gameI ⟨{ W with dice := d }, ⟨0, 4, [(W.tab.l.length : Int)], [t]⟩, 1, 0, 0⟩ = ⟨{ W with dice := d }, ⟨0, 5, [], [t]⟩, 0, 0, W.tab.l.length⟩ := rfl
  rw [runK_step rfl rfl s1, runK_step rfl rfl s2, runK_step rfl rfl s3, runK_step rfl rfl s4, runK_step rfl rfl s5, runK_stop (by simp)]

set_option maxHeartbeats 1000000 in
theorem run_build (W : Wd) (k b : Int) (m : Nat) : runK gameI (m + 9) (st0 gameI W 1 [0, 3, k, b]) = (⟨{ W with tab := (W.tab.spawn k W.player b b).1 }, ⟨1, 9, [], [0, 3, k, b]⟩, 0, 0, (W.tab.spawn k W.player b b).2⟩, 9, false) := by
  have s1 : stepS gameI (st0 gameI W 1 [0, 3, k, b]) = ⟨W, ⟨1, 1, [3], [0, 3, k, b]⟩, 1, 0, 0⟩ := rfl
  have s2 : stepS gameI ⟨W, ⟨1, 1, [3], [0, 3, k, b]⟩, 1, 0, 0⟩ = ⟨W, ⟨1, 2, [3, 3], [0, 3, k, b]⟩, 1, 0, 0⟩ := rfl
  have s3 : stepS gameI ⟨W, ⟨1, 2, [3, 3], [0, 3, k, b]⟩, 1, 0, 0⟩ = ⟨W, ⟨1, 3, [1], [0, 3, k, b]⟩, 1, 0, 0⟩ := rfl
  have s4 : stepS gameI ⟨W, ⟨1, 3, [1], [0, 3, k, b]⟩, 1, 0, 0⟩ = ⟨W, ⟨1, 4, [], [0, 3, k, b]⟩, 1, 0, 0⟩ := rfl
  have s5 : stepS gameI ⟨W, ⟨1, 4, [], [0, 3, k, b]⟩, 1, 0, 0⟩ = ⟨W, ⟨1, 5, [k], [0, 3, k, b]⟩, 1, 0, 0⟩ := rfl
  have s6 : stepS gameI ⟨W, ⟨1, 5, [k], [0, 3, k, b]⟩, 1, 0, 0⟩ = ⟨W, ⟨1, 6, [k, b], [0, 3, k, b]⟩, 1, 0, 0⟩ := rfl
  have s7 : stepS gameI ⟨W, ⟨1, 6, [k, b], [0, 3, k, b]⟩, 1, 0, 0⟩ = ⟨W, ⟨1, 7, [k, b, b], [0, 3, k, b]⟩, 1, 0, 0⟩ := rfl
  have s8 : stepS gameI ⟨W, ⟨1, 7, [k, b, b], [0, 3, k, b]⟩, 1, 0, 0⟩ = ⟨{ W with tab := (W.tab.spawn k W.player b b).1 }, ⟨1, 8, [(W.tab.spawn k W.player b b).2], [0, 3, k, b]⟩, 1, 0, 0⟩ := by simp [stepS, stepX, gameI, gameOrders, popL, pushL, Wd.do, nI, hostArgs]
  generalize (W.tab.spawn k W.player b b) = q at s8 ⊢
  have s9 : stepS gameI ⟨{ W with tab := q.1 }, ⟨1, 8, [q.2], [0, 3, k, b]⟩, 1, 0, 0⟩ = ⟨{ W with tab := q.1 }, ⟨1, 9, [], [0, 3, k, b]⟩, 0, 0, q.2⟩ := rfl
  rw [runK_step rfl rfl s1, runK_step rfl rfl s2, runK_step rfl rfl s3, runK_step rfl rfl s4, runK_step rfl rfl s5, runK_step rfl rfl s6, runK_step rfl rfl s7, runK_step rfl rfl s8, runK_step rfl rfl s9, runK_stop (by simp)]

set_option maxHeartbeats 1000000 in
theorem run_move (W : Wd) (u x : Int) (m : Nat) : runK gameI (m + 13) (st0 gameI W 1 [u, 1, x, 0]) = (⟨{ W with tab := (W.tab.set u 2 x).1 }, ⟨1, 27, [], [u, 1, x, 0]⟩, 0, 0, tru (W.tab.set u 2 x).2⟩, 13, false) := by
  have s1 : stepS gameI (st0 gameI W 1 [u, 1, x, 0]) = ⟨W, ⟨1, 1, [1], [u, 1, x, 0]⟩, 1, 0, 0⟩ := rfl
  have s2 : stepS gameI ⟨W, ⟨1, 1, [1], [u, 1, x, 0]⟩, 1, 0, 0⟩ = ⟨W, ⟨1, 2, [1, 3], [u, 1, x, 0]⟩, 1, 0, 0⟩ := rfl
  have s3 : stepS gameI ⟨W, ⟨1, 2, [1, 3], [u, 1, x, 0]⟩, 1, 0, 0⟩ = ⟨W, ⟨1, 3, [0], [u, 1, x, 0]⟩, 1, 0, 0⟩ := rfl
  have s4 : stepS gameI ⟨W, ⟨1, 3, [0], [u, 1, x, 0]⟩, 1, 0, 0⟩ = ⟨W, ⟨1, 9, [], [u, 1, x, 0]⟩, 1, 0, 0⟩ := rfl
  have s5 : stepS gameI ⟨W, ⟨1, 9, [], [u, 1, x, 0]⟩, 1, 0, 0⟩ = ⟨W, ⟨1, 10, [1], [u, 1, x, 0]⟩, 1, 0, 0⟩ := rfl
  have s6 : stepS gameI ⟨W, ⟨1, 10, [1], [u, 1, x, 0]⟩, 1, 0, 0⟩ = ⟨W, ⟨1, 11, [1, 2], [u, 1, x, 0]⟩, 1, 0, 0⟩ := rfl
  have s7 : stepS gameI ⟨W, ⟨1, 11, [1, 2], [u, 1, x, 0]⟩, 1, 0, 0⟩ = ⟨W, ⟨1, 12, [0], [u, 1, x, 0]⟩, 1, 0, 0⟩ := rfl
  have s8 : stepS gameI ⟨W, ⟨1, 12, [0], [u, 1, x, 0]⟩, 1, 0, 0⟩ = ⟨W, ⟨1, 22, [], [u, 1, x, 0]⟩, 1, 0, 0⟩ := rfl
  have s9 : stepS gameI ⟨W, ⟨1, 22, [], [u, 1, x, 0]⟩, 1, 0, 0⟩ = ⟨W, ⟨1, 23, [u], [u, 1, x, 0]⟩, 1, 0, 0⟩ := rfl
  have s10 : stepS gameI ⟨W, ⟨1, 23, [u], [u, 1, x, 0]⟩, 1, 0, 0⟩ = ⟨W, ⟨1, 24, [u, 2], [u, 1, x, 0]⟩, 1, 0, 0⟩ := rfl
  have s11 : stepS gameI ⟨W, ⟨1, 24, [u, 2], [u, 1, x, 0]⟩, 1, 0, 0⟩ = ⟨W, ⟨1, 25, [u, 2, x], [u, 1, x, 0]⟩, 1, 0, 0⟩ := rfl
  have s12 : stepS gameI ⟨W, ⟨1, 25, [u, 2, x], [u, 1, x, 0]⟩, 1, 0, 0⟩ = ⟨{ W with tab := (W.tab.set u 2 x).1 }, ⟨1, 26, [tru (W.tab.set u 2 x).2], [u, 1, x, 0]⟩, 1, 0, 0⟩ := by simp [stepS, stepX, gameI, gameOrders, popL, pushL, Wd.do, nI, hostArgs]
  generalize (W.tab.set u 2 x) = q at s12 ⊢
  have s13 : stepS gameI ⟨{ W with tab := q.1 }, ⟨1, 26, [tru q.2], [u, 1, x, 0]⟩, 1, 0, 0⟩ = ⟨{ W with tab := q.1 }, ⟨1, 27, [], [u, 1, x, 0]⟩, 0, 0, tru q.2⟩ := rfl
  rw [runK_step rfl rfl s1, runK_step rfl rfl s2, runK_step rfl rfl s3, runK_step rfl rfl s4, runK_step rfl rfl s5, runK_step rfl rfl s6, runK_step rfl rfl s7, runK_step rfl rfl s8, runK_step rfl rfl s9, runK_step rfl rfl s10, runK_step rfl rfl s11, runK_step rfl rfl s12, runK_step rfl rfl s13, runK_stop (by simp)]

theorem wrun_turn (W : Wd) (t left : Int) {d r : Int} (hl : 5 ≤ left) (hb : below W.dice 4 = (d, r)) (h : ¬ r = 0) : wrun gameI W left 255 0 [t] = ({ W with player := 255, dice := d, e0 := W.e0 + 1 }, left - 5) := by
  have e : left.toNat = (left.toNat - 5) + 5 := by omega
  unfold wrun
  rw [e, run_turn { W with player := 255 } t _ hb h]
  simp [resT, Wd.bump]
theorem wrun_build (W : Wd) (p k b left : Int) (hl : 9 ≤ left) : wrun gameI W left p 1 [0, 3, k, b] = ({ W with player := 255, tab := (W.tab.spawn k p b b).1, e0 := W.e0 + 1 }, left - 9) := by
  have e : left.toNat = (left.toNat - 9) + 9 := by omega
  unfold wrun
  rw [e, run_build { W with player := p } k b _]
  simp [resT, Wd.bump]
theorem wrun_move (W : Wd) (p u x left : Int) (hl : 13 ≤ left) : wrun gameI W left p 1 [u, 1, x, 0] = ({ W with player := 255, tab := (W.tab.set u 2 x).1, e0 := W.e0 + 1 }, left - 13) := by
  have e : left.toNat = (left.toNat - 13) + 13 := by omega
  unfold wrun
  rw [e, run_move { W with player := p } u x _]
  simp [resT, Wd.bump]

theorem dice_1 : below 1 4 = (11400714819323198486, 2) := by decide
theorem dice_2 : below 11400714819323198486 4 = (4354685564936845355, 2) := by decide
theorem dice_3 : below 4354685564936845355 4 = (15755400384260043840, 3) := by decide
end Go.Proofs.Ytgkhedmjkahclaa.TL
