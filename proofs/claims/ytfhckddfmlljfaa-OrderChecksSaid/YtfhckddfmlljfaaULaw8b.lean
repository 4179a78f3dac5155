/- The law UnitSets, as the code runs. -/
import Derived.Test.YtfhckddfmlljfaaULaw8
import Derived.Test.YtfhckddfmlljfaaTz
namespace Go.Proofs.Ytfhckddfmlljfaa.TL
open Go
set_option linter.unusedVariables false
set_option linter.unusedSimpArgs false

theorem i64_and_le (a : Int) (m : Nat) (hm : m < 2 ^ 63) : 0 ≤ bits .and .i64 a (m : Int) ∧ bits .and .i64 a (m : Int) ≤ m := by
  have h1 : (BitVec.ofInt 64 a &&& BitVec.ofInt 64 (m : Int)).toNat ≤ m := by
    rw [BitVec.toNat_and, ofInt_nat, BitVec.toNat_ofNat, Nat.mod_eq_of_lt (by omega)]
    exact Nat.and_le_right
  have h2 : bits .and .i64 a (m : Int) = ((BitVec.ofInt 64 a &&& BitVec.ofInt 64 (m : Int)).toNat : Int) := by
    show IntKind.i64.wrap ((BitVec.ofInt 64 a &&& BitVec.ofInt 64 (m : Int)).toNat : Nat) = _
    exact i64_id (by omega) (by omega)
  rw [h2]
  omega

set_option maxHeartbeats 2000000 in
set_option maxRecDepth 100000 in
theorem UnitSets_T (f x a b : Int) : callT Try.prog 4 [i64v f, i64v x, i64v a, i64v b] ⟨[], []⟩ (fun r h => r = .v (.bool true)) := by
  refine callT_of_body [0, 1, 2, 3, 8, 9, 10, 11, 12, 14, 16, 17, 18, 19, 22, 67, 69, 81, 100] [] Try.func4 rfl (by decide) (by kernel_rfl) rfl ?_
  simp
  refine callT_eq [] Awk8_T ?_
  simp
  refine callT_ex2 [(2, 23), (1001, 1001)] New1_T ?_
  simp [i64v]
  intro v u
  have ha := i64_and_le a 255 (by decide)
  have hb := i64_and_le b 255 (by decide)
  generalize hA : bits .and .i64 a ((255 : Nat) : Int) = A at ha
  generalize hB : bits .and .i64 b ((255 : Nat) : Int) = B at hb
  have hA' : bits .and .i64 a 255 = A := hA
  have hB' : bits .and .i64 b 255 = B := hB
  have a0 : 0 ≤ A := ha.1
  have a1 : A ≤ 255 := by have := ha.2; omega
  have b0 : 0 ≤ B := hb.1
  have b1 : B ≤ 255 := by have := hb.2; omega
  refine callT_ex [(1000, 23), (1001, 1001)] (Spawn_T v u ⟨[], 1⟩ A B 1 2 ok0 (by decide)) ?_
  simp [i64v, Tab.spawn, Tab.canSpawn, mayF, a0, a1, b0, b1, Un.cells]
  intro u1
  refine callT_ex [(1000, 23), (1001, 1001)] (Spawn_T v u1 ⟨[⟨1, A, B, 1, 2, 1000⟩], 2⟩ B A 3 4 (ok1 _ _) (show (0 : Int) ≤ 2 by decide)) ?_
  simp [i64v, Tab.spawn, Tab.canSpawn, mayF, a0, a1, b0, b1, Un.cells]
  intro u2
  have okT2 : Tab.Ok ⟨[⟨1, A, B, 1, 2, 1000⟩, ⟨2, B, A, 3, 4, 1000⟩], 3⟩ := ⟨asc_iff.2 (by simp), by simp⟩
  have f1 : found [⟨1, A, B, 1, 2, 1000⟩, ⟨2, B, A, 3, 4, 1000⟩] 1 = true := by simp [found, pos, List.takeWhile]
  have f2 : found [⟨1, A, B, 1, 2, 1000⟩, ⟨2, B, A, 3, 4, 1000⟩] 2 = true := by simp [found, pos, List.takeWhile]
  have p1 : pos [⟨1, A, B, 1, 2, 1000⟩, ⟨2, B, A, 3, 4, 1000⟩] 1 = 0 := by simp [pos, List.takeWhile]
  have p2 : pos [⟨1, A, B, 1, 2, 1000⟩, ⟨2, B, A, 3, 4, 1000⟩] 2 = 1 := by simp [pos, List.takeWhile]
  refine callT_eq [(1000, 23), (1001, 1001)] (Unit_T v u2 ⟨[⟨1, A, B, 1, 2, 1000⟩, ⟨2, B, A, 3, 4, 1000⟩], 3⟩ 1 okT2) ?_
  simp [i64v, Tab.unit, f1, p1, Un.cells]
  intro v12
  refine callT_eq [(1000, 23), (1001, 1001)] (Unit_T v u2 ⟨[⟨1, A, B, 1, 2, 1000⟩, ⟨2, B, A, 3, 4, 1000⟩], 3⟩ 2 okT2) ?_
  simp [i64v, Tab.unit, f2, p2, Un.cells]
  intro v14
  refine callT_ex [(1000, 23), (1001, 1001)] (Set_T v u2 ⟨[⟨1, A, B, 1, 2, 1000⟩, ⟨2, B, A, 3, 4, 1000⟩], 3⟩ 1 f x okT2) ?_
  by_cases h1 : f < 2 ∨ 4 < f ∨ (¬ (f = 4 ∧ x < 1) ∧ mayF f x = false)
  · have hs : Tab.set ⟨[⟨1, A, B, 1, 2, 1000⟩, ⟨2, B, A, 3, 4, 1000⟩], 3⟩ 1 f x = (⟨[⟨1, A, B, 1, 2, 1000⟩, ⟨2, B, A, 3, 4, 1000⟩], 3⟩, false) := by
      unfold Tab.set
      by_cases h2 : f < 2 ∨ 4 < f
      · rw [if_pos (by simp [h2])]
      · rw [if_neg (by simp [f1]; omega), if_neg (by omega), if_pos (by rcases h1 with h | h | h; omega; omega; exact h.2)]
    simp [hs, i64v, Un.cells]
    intro u3
    refine callT_eq [(1000, 23), (1001, 1001)] (Unit_T v u3 ⟨[⟨1, A, B, 1, 2, 1000⟩, ⟨2, B, A, 3, 4, 1000⟩], 3⟩ 1 okT2) ?_
    simp [i64v, Tab.unit, f1, p1, Un.cells]
    intro v17
    refine callT_eq [(1000, 23), (1001, 1001)] (Unit_T v u3 ⟨[⟨1, A, B, 1, 2, 1000⟩, ⟨2, B, A, 3, 4, 1000⟩], 3⟩ 2 okT2) ?_
    simp [i64v, Tab.unit, f2, p2, Un.cells]
  by_cases h2 : f = 4 ∧ x < 1
  · obtain ⟨rfl, h2⟩ := h2
    have hs : Tab.set ⟨[⟨1, A, B, 1, 2, 1000⟩, ⟨2, B, A, 3, 4, 1000⟩], 3⟩ 1 4 x = (⟨[⟨2, B, A, 3, 4, 1000⟩], 3⟩, true) := by
      unfold Tab.set
      rw [if_neg (by simp [f1]), if_pos ⟨rfl, h2⟩]
      simp [Tab.kill, f1, p1]
    simp [hs, i64v, Un.cells]
    intro u3
    have g1 : found [⟨2, B, A, 3, 4, 1000⟩] 1 = false := by simp [found, pos, List.takeWhile]
    have g2 : found [⟨2, B, A, 3, 4, 1000⟩] 2 = true := by simp [found, pos, List.takeWhile]
    have q2 : pos [⟨2, B, A, 3, 4, 1000⟩] 2 = 0 := by simp [pos, List.takeWhile]
    refine callT_eq [(1000, 23), (1001, 1001)] (Unit_T v u3 ⟨[⟨2, B, A, 3, 4, 1000⟩], 3⟩ 1 (ok1 _ _)) ?_
    simp [i64v, Tab.unit, g1, Un.cells]
    intro v17
    refine callT_eq [(1000, 23), (1001, 1001)] (Unit_T v u3 ⟨[⟨2, B, A, 3, 4, 1000⟩], 3⟩ 2 (ok1 _ _)) ?_
    simp [i64v, Tab.unit, g2, q2, Un.cells, h2]
    intro v19
    refine callT_eq [(1000, 23), (1001, 1001)] (Len_T v u3 ⟨[⟨2, B, A, 3, 4, 1000⟩], 3⟩) ?_
    simp [i64v, Un.cells]
    refine callT_eq [(1000, 23), (1001, 1001)] (Nth_T v u3 ⟨[⟨2, B, A, 3, 4, 1000⟩], 3⟩ 0) ?_
    simp [i64v, Un.cells, Tab.nth]
  · have h3 : mayF f x = true := by
      cases h : mayF f x with
      | true => rfl
      | false => exact absurd (.inr (.inr ⟨h2, h⟩)) h1
    have hf : f = 2 ∨ f = 3 ∨ f = 4 := by omega
    have hs : Tab.set ⟨[⟨1, A, B, 1, 2, 1000⟩, ⟨2, B, A, 3, 4, 1000⟩], 3⟩ 1 f x = (⟨[Un.setF ⟨1, A, B, 1, 2, 1000⟩ f x, ⟨2, B, A, 3, 4, 1000⟩], 3⟩, true) := by
      unfold Tab.set
      rw [if_neg (by simp [f1]; omega), if_neg h2, if_neg (by simp [h3])]
      simp [p1]
    have hx4 : ¬ (f = 4 ∧ x < 1) := h2
    rcases hf with rfl | rfl | rfl
    all_goals
      simp [hs, i64v, Un.cells, Un.setF]
      intro u3
    · have okT3 : Tab.Ok ⟨[⟨1, A, B, x, 2, 1000⟩, ⟨2, B, A, 3, 4, 1000⟩], 3⟩ := ⟨asc_iff.2 (by simp), by simp⟩
      have g1 : found [⟨1, A, B, x, 2, 1000⟩, ⟨2, B, A, 3, 4, 1000⟩] 1 = true := by simp [found, pos, List.takeWhile]
      have g2 : found [⟨1, A, B, x, 2, 1000⟩, ⟨2, B, A, 3, 4, 1000⟩] 2 = true := by simp [found, pos, List.takeWhile]
      have q1 : pos [⟨1, A, B, x, 2, 1000⟩, ⟨2, B, A, 3, 4, 1000⟩] 1 = 0 := by simp [pos, List.takeWhile]
      have q2 : pos [⟨1, A, B, x, 2, 1000⟩, ⟨2, B, A, 3, 4, 1000⟩] 2 = 1 := by simp [pos, List.takeWhile]
      refine callT_eq [(1000, 23), (1001, 1001)] (Unit_T v u3 ⟨[⟨1, A, B, x, 2, 1000⟩, ⟨2, B, A, 3, 4, 1000⟩], 3⟩ 1 okT3) ?_
      simp [i64v, Tab.unit, g1, q1, Un.cells]
      intro v17
      refine callT_eq [(1000, 23), (1001, 1001)] (Unit_T v u3 ⟨[⟨1, A, B, x, 2, 1000⟩, ⟨2, B, A, 3, 4, 1000⟩], 3⟩ 2 okT3) ?_
      simp [i64v, Tab.unit, g2, q2, Un.cells]
    · have okT3 : Tab.Ok ⟨[⟨1, A, B, 1, x, 1000⟩, ⟨2, B, A, 3, 4, 1000⟩], 3⟩ := ⟨asc_iff.2 (by simp), by simp⟩
      have g1 : found [⟨1, A, B, 1, x, 1000⟩, ⟨2, B, A, 3, 4, 1000⟩] 1 = true := by simp [found, pos, List.takeWhile]
      have g2 : found [⟨1, A, B, 1, x, 1000⟩, ⟨2, B, A, 3, 4, 1000⟩] 2 = true := by simp [found, pos, List.takeWhile]
      have q1 : pos [⟨1, A, B, 1, x, 1000⟩, ⟨2, B, A, 3, 4, 1000⟩] 1 = 0 := by simp [pos, List.takeWhile]
      have q2 : pos [⟨1, A, B, 1, x, 1000⟩, ⟨2, B, A, 3, 4, 1000⟩] 2 = 1 := by simp [pos, List.takeWhile]
      refine callT_eq [(1000, 23), (1001, 1001)] (Unit_T v u3 ⟨[⟨1, A, B, 1, x, 1000⟩, ⟨2, B, A, 3, 4, 1000⟩], 3⟩ 1 okT3) ?_
      simp [i64v, Tab.unit, g1, q1, Un.cells]
      intro v17
      refine callT_eq [(1000, 23), (1001, 1001)] (Unit_T v u3 ⟨[⟨1, A, B, 1, x, 1000⟩, ⟨2, B, A, 3, 4, 1000⟩], 3⟩ 2 okT3) ?_
      simp [i64v, Tab.unit, g2, q2, Un.cells]
    · have hx : ¬ x < 1 := fun h => hx4 ⟨rfl, h⟩
      have okT3 : Tab.Ok ⟨[⟨1, A, B, 1, 2, x⟩, ⟨2, B, A, 3, 4, 1000⟩], 3⟩ := ⟨asc_iff.2 (by simp), by simp⟩
      have g1 : found [⟨1, A, B, 1, 2, x⟩, ⟨2, B, A, 3, 4, 1000⟩] 1 = true := by simp [found, pos, List.takeWhile]
      have g2 : found [⟨1, A, B, 1, 2, x⟩, ⟨2, B, A, 3, 4, 1000⟩] 2 = true := by simp [found, pos, List.takeWhile]
      have q1 : pos [⟨1, A, B, 1, 2, x⟩, ⟨2, B, A, 3, 4, 1000⟩] 1 = 0 := by simp [pos, List.takeWhile]
      have q2 : pos [⟨1, A, B, 1, 2, x⟩, ⟨2, B, A, 3, 4, 1000⟩] 2 = 1 := by simp [pos, List.takeWhile]
      refine callT_eq [(1000, 23), (1001, 1001)] (Unit_T v u3 ⟨[⟨1, A, B, 1, 2, x⟩, ⟨2, B, A, 3, 4, 1000⟩], 3⟩ 1 okT3) ?_
      simp [i64v, Tab.unit, g1, q1, Un.cells]
      intro v17
      refine callT_eq [(1000, 23), (1001, 1001)] (Unit_T v u3 ⟨[⟨1, A, B, 1, 2, x⟩, ⟨2, B, A, 3, 4, 1000⟩], 3⟩ 2 okT3) ?_
      simp [i64v, Tab.unit, g2, q2, Un.cells, hx]

/-- Acts as they are handed over. -/
def Act.wf (o : Act) : Prop := (Lit.int .i64 o.kind).wf = true ∧ (Lit.int .i64 o.n).wf = true ∧ (Lit.int .i64 o.field).wf = true ∧ (Lit.int .i64 o.a).wf = true ∧ (Lit.int .i64 o.b).wf = true ∧ (Lit.int .i64 o.x).wf = true ∧ (Lit.int .i64 o.y).wf = true
theorem dec_acts {c : List TV} (h : ShV (.sl (.st [.int .i64, .int .i64, .int .i64, .int .i64, .int .i64, .int .i64, .int .i64])) c) : ∃ l : List Act, (∀ o ∈ l, o.wf) ∧ asT (.sl (.st [.int .i64, .int .i64, .int .i64, .int .i64, .int .i64, .int .i64, .int .i64])) c = .isl (rowA l) l.length := by
  simp only [ShV] at h
  obtain ⟨els, h1, h2, rfl⟩ := h
  obtain ⟨l, h3, rfl⟩ := els_map (g := Act.cells) (p := Act.wf) (els := els) fun x hx => by
    have := h1 x hx
    simp only [ShL, ShV] at this
    obtain ⟨_, _, rfl, ⟨n0, g0, rfl⟩, _, _, rfl, ⟨n1, g1, rfl⟩, _, _, rfl, ⟨n2, g2, rfl⟩, _, _, rfl, ⟨n3, g3, rfl⟩, _, _, rfl, ⟨n4, g4, rfl⟩, _, _, rfl, ⟨n5, g5, rfl⟩, _, _, rfl, ⟨n6, g6, rfl⟩, rfl⟩ := this
    exact ⟨⟨n0, n1, n2, n3, n4, n5, n6⟩, ⟨g0, g1, g2, g3, g4, g5, g6⟩, rfl⟩
  exact ⟨l, h3, by simp [asT, rowA]⟩
end Go.Proofs.Ytfhckddfmlljfaa.TL
