/- Letters: their kinds, their bytes. -/
import Derived.Test.YtkggjmoghpmelaaUPcR
import Derived.Test.YtkggjmoghpmelaaURecB
namespace Go.Proofs.Ytkggjmoghpmelaa.TL
open Go
set_option linter.unusedVariables false
set_option linter.unusedSimpArgs false

/-- A letter. -/
inductive Let where
  | give (t : Int) (b : List Ord)
  | vote (p : Int) (y : Bool)
  | leave 
  | hash (t : Int) (q : Nat)
  | enter 
  | ready (t : Int)
  | turn (r : Rec)
  | ask (p : Int)
  | welc (p : Int)
  | piece (p : Pcs)
def Let.kind : Let → Nat
  | .give t b => 1
  | .vote p y => 2
  | .leave  => 3
  | .hash t q => 4
  | .enter  => 5
  | .ready t => 6
  | .turn r => 7
  | .ask p => 8
  | .welc p => 9
  | .piece p => 10
def Let.ty : Let → Nat
  | .give t b => 71
  | .vote p y => 60
  | .leave  => 64
  | .hash t q => 75
  | .enter  => 98
  | .ready t => 78
  | .turn r => 85
  | .ask p => 62
  | .welc p => 86
  | .piece p => 90
def Let.meth : Let → Nat
  | .give t b => 107
  | .vote p y => 103
  | .leave  => 105
  | .hash t q => 108
  | .enter  => 115
  | .ready t => 109
  | .turn r => 112
  | .ask p => 104
  | .welc p => 113
  | .piece p => 114
def Let.fl : Let → List TV
  | .give t b => [i64c t, .isl (rowC b) b.length]
  | .vote p y => [i64c p, .v (.bool y)]
  | .leave  => []
  | .hash t q => [i64c t, u64c q]
  | .enter  => []
  | .ready t => [i64c t]
  | .turn r => r.cells
  | .ask p => [i64c p]
  | .welc p => [i64c p]
  | .piece p => p.cells
def Let.body : Let → List UInt8
  | .give t b => nb t.toNat ++ batchB b
  | .vote p y => nb p.toNat ++ nb (if y = true then 1 else 0)
  | .leave  => []
  | .hash t q => nb t.toNat ++ nb q
  | .enter  => []
  | .ready t => nb t.toNat
  | .turn r => r.bytes
  | .ask p => nb p.toNat
  | .welc p => nb p.toNat
  | .piece p => p.bytes
def Let.rd : Let → Prop
  | .give t b => (0 ≤ t ∧ t ≤ 1099511627776) ∧ (∀ o ∈ b, o.ok) ∧ b.length ≤ 8
  | .vote p y => 0 ≤ p ∧ p ≤ 31
  | .leave  => True
  | .hash t q => (0 ≤ t ∧ t ≤ 1099511627776) ∧ q < 2 ^ 64
  | .enter  => True
  | .ready t => 0 ≤ t ∧ t ≤ 1099511627776
  | .turn r => r.rd
  | .ask p => 0 ≤ p ∧ p ≤ 31
  | .welc p => 0 ≤ p ∧ p ≤ 31
  | .piece p => p.wf
def Let.tv (l : Let) : TV := .ifc l.ty (.agg l.fl)
def Let.bytes (l : Let) : List UInt8 := nb l.kind ++ l.body
theorem KindGive_T (t : Int) (b : List Ord) : callT Try.prog 107 [.agg (Let.give t b).fl] ⟨[], []⟩ (fun x h => x = i64c 1 ∧ h = []) := by
  refine callT_of_body [0, 2] [] Try.func107 rfl (by decide) (by kernel_rfl) rfl ?_
  simp [i64c, u64c, Let.fl]
theorem KindVote_T (p : Int) (y : Bool) : callT Try.prog 103 [.agg (Let.vote p y).fl] ⟨[], []⟩ (fun x h => x = i64c 2 ∧ h = []) := by
  refine callT_of_body [0, 2] [] Try.func103 rfl (by decide) (by kernel_rfl) rfl ?_
  simp [i64c, u64c, Let.fl]
theorem KindLeave_T  : callT Try.prog 105 [.agg (Let.leave ).fl] ⟨[], []⟩ (fun x h => x = i64c 3 ∧ h = []) := by
  refine callT_of_body [0, 2] [] Try.func105 rfl (by decide) (by kernel_rfl) rfl ?_
  simp [i64c, u64c, Let.fl]
theorem KindHash_T (t : Int) (q : Nat) : callT Try.prog 108 [.agg (Let.hash t q).fl] ⟨[], []⟩ (fun x h => x = i64c 4 ∧ h = []) := by
  refine callT_of_body [0, 2] [] Try.func108 rfl (by decide) (by kernel_rfl) rfl ?_
  simp [i64c, u64c, Let.fl]
theorem KindEnter_T  : callT Try.prog 115 [.agg (Let.enter ).fl] ⟨[], []⟩ (fun x h => x = i64c 5 ∧ h = []) := by
  refine callT_of_body [0, 2] [] Try.func115 rfl (by decide) (by kernel_rfl) rfl ?_
  simp [i64c, u64c, Let.fl]
theorem KindReady_T (t : Int) : callT Try.prog 109 [.agg (Let.ready t).fl] ⟨[], []⟩ (fun x h => x = i64c 6 ∧ h = []) := by
  refine callT_of_body [0, 2] [] Try.func109 rfl (by decide) (by kernel_rfl) rfl ?_
  simp [i64c, u64c, Let.fl]
theorem KindTurn_T (r : Rec) : callT Try.prog 112 [.agg (Let.turn r).fl] ⟨[], []⟩ (fun x h => x = i64c 7 ∧ h = []) := by
  refine callT_of_body [0, 2] [] Try.func112 rfl (by decide) (by kernel_rfl) rfl ?_
  simp [i64c, u64c, Let.fl, Rec.cells]
theorem KindAsk_T (p : Int) : callT Try.prog 104 [.agg (Let.ask p).fl] ⟨[], []⟩ (fun x h => x = i64c 8 ∧ h = []) := by
  refine callT_of_body [0, 2] [] Try.func104 rfl (by decide) (by kernel_rfl) rfl ?_
  simp [i64c, u64c, Let.fl]
theorem KindWelcome_T (p : Int) : callT Try.prog 113 [.agg (Let.welc p).fl] ⟨[], []⟩ (fun x h => x = i64c 9 ∧ h = []) := by
  refine callT_of_body [0, 2] [] Try.func113 rfl (by decide) (by kernel_rfl) rfl ?_
  simp [i64c, u64c, Let.fl]
theorem KindPiece_T (p : Pcs) : callT Try.prog 114 [.agg (Let.piece p).fl] ⟨[], []⟩ (fun x h => x = i64c 10 ∧ h = []) := by
  refine callT_of_body [0, 2] [] Try.func114 rfl (by decide) (by kernel_rfl) rfl ?_
  simp [i64c, u64c, Let.fl, Pcs.cells]
theorem Kind_T (l : Let) : callT Try.prog l.meth [.agg l.fl] ⟨[], []⟩ (fun x h => x = i64c l.kind ∧ h = []) := by
  cases l with
  | give t b => exact KindGive_T t b
  | vote p y => exact KindVote_T p y
  | leave  => exact KindLeave_T 
  | hash t q => exact KindHash_T t q
  | enter  => exact KindEnter_T 
  | ready t => exact KindReady_T t
  | turn r => exact KindTurn_T r
  | ask p => exact KindAsk_T p
  | welc p => exact KindWelcome_T p
  | piece p => exact KindPiece_T p
theorem Bit_T (y : Bool) : callT Try.prog 24 [.v (.bool y)] ⟨[], []⟩ (fun x h => x = i64c (if y = true then 1 else 0) ∧ h = []) := by
  refine callT_of_body [0, 2, 3] [] Try.func24 rfl (by decide) (by kernel_rfl) rfl ?_
  cases y
  · simp [i64c]
  · simp [i64c]
theorem LetText0_T : callT Try.prog 11 [.v .nilIface] ⟨[], []⟩ (fun x h => x = .v (.string (bs [])) ∧ h = []) := by
  refine callT_of_body [0, 2, 3, 4, 5, 6, 7, 8, 9, 10, 11, 13, 18, 20, 21, 30, 31, 40, 41, 51, 52, 58, 59, 64, 65, 71, 72, 78, 79] [] Try.func11 rfl (by decide) (by kernel_rfl) rfl ?_
  simp [bs_nil]

set_option maxHeartbeats 4000000 in
set_option maxRecDepth 100000 in
theorem LetTextGive_T (t : Int) (b : List Ord) (hl : (Let.give t b).rd) : callT Try.prog 11 [(Let.give t b).tv] ⟨[], []⟩ (fun x h => x = .v (.string (bs (Let.give t b).bytes)) ∧ h = []) := by
  refine callT_of_body [0, 2, 3, 4, 5, 6, 7, 8, 9, 10, 11, 13, 18, 20, 21, 30, 31, 40, 41, 51, 52, 58, 59, 64, 65, 71, 72, 78, 79] [] Try.func11 rfl (by decide) (by kernel_rfl) rfl ?_
  simp only [Let.rd] at hl
  have hk := KindGive_T t b
  simp [Let.tv, Let.ty, Let.fl, i64c, u64c]
  intro v3
  refine callT_eq [] hk ?_
  simp [Let.fl, i64c, u64c]
  intro v16
  have hc0 := OutCount_T 0 0 [] [(1 : Int)] (by simp) (by simp)
  refine callT.pre (fn_of hc0) (CLx.frz 16 rfl (CLx.nilCell 3 0 1001 1 (by decide) (by decide) rfl rfl fun v1 => CLx.done ?_))
  simp
  refine callT_ex [(1000, 3), (1001, 1001)] (OutCount_T v3 v1 [] [(1 : Int)] (by simp) (by simp)) ?_
  simp [i64c, u64c]
  obtain ⟨ht, hb, hbl⟩ := hl
  have l0 := nb_len10 (n := 1) (by decide)
  have l1 := nb_len10 (n := t.toNat) (by omega)
  intro u1 v4 v24
  have hc1 := OutCount_T v3 u1 (nb 1) [t] (by simp; omega) (by simp; have := nb_len10 (n := 1) (by decide); omega)
  refine callT.pre (fn_of hc1) (CLx.frz 24 rfl (CLx.done ?_))
  simp
  refine callT_ex [(1000, 3), (1001, 1001)] hc1 ?_
  simp [i64c]
  intro u2
  refine callT_ex [(1000, 3), (1001, 1001)] (Put_T v3 u2 (nb 1 ++ nbs ([t].map Int.toNat)) b hb (by simp [nbs]; omega)) ?_
  simp
  intro u3
  refine callT_eq [(1000, 3), (1001, 1001)] (OutText_T v3 u3 (nb 1 ++ nbs ([t].map Int.toNat) ++ batchB b)) ?_
  simp [Let.bytes, Let.kind, Let.body, nbs]
set_option maxHeartbeats 4000000 in
set_option maxRecDepth 100000 in
theorem LetTextVote_T (p : Int) (y : Bool) (hl : (Let.vote p y).rd) : callT Try.prog 11 [(Let.vote p y).tv] ⟨[], []⟩ (fun x h => x = .v (.string (bs (Let.vote p y).bytes)) ∧ h = []) := by
  refine callT_of_body [0, 2, 3, 4, 5, 6, 7, 8, 9, 10, 11, 13, 18, 20, 21, 30, 31, 40, 41, 51, 52, 58, 59, 64, 65, 71, 72, 78, 79] [] Try.func11 rfl (by decide) (by kernel_rfl) rfl ?_
  simp only [Let.rd] at hl
  have hk := KindVote_T p y
  simp [Let.tv, Let.ty, Let.fl, i64c, u64c]
  intro v3
  refine callT_eq [] hk ?_
  simp [Let.fl, i64c, u64c]
  intro v16
  have hc0 := OutCount_T 0 0 [] [(2 : Int)] (by simp) (by simp)
  refine callT.pre (fn_of hc0) (CLx.frz 16 rfl (CLx.nilCell 3 0 1001 1 (by decide) (by decide) rfl rfl fun v1 => CLx.done ?_))
  simp
  refine callT_ex [(1000, 3), (1001, 1001)] (OutCount_T v3 v1 [] [(2 : Int)] (by simp) (by simp)) ?_
  simp [i64c, u64c]
  have l0 := nb_len10 (n := 2) (by decide)
  obtain ⟨z, hz, hz2⟩ : ∃ z : Nat, (if y = true then (1 : Int) else 0) = z ∧ (if y = true then 1 else 0 : Nat) = z := by
    cases y
    · exact ⟨0, rfl, rfl⟩
    · exact ⟨1, rfl, rfl⟩
  have hz3 : z ≤ 1 := by rw [← hz2]; split <;> omega
  have hb := Bit_T y
  rw [hz] at hb
  intro u1 v5
  refine draw_g [0, 1, 2, 3, 4] 5 [(4, [2, 3])] (by kernel_rfl) (by kernel_rfl) (by kernel_rfl) ?_
  simp
  refine callT_eq [] hb ?_
  simp [i64c]
  intro v37
  have hc1 := OutCount_T v3 u1 (nb 2) [p, (z : Int)] (by simp; omega) (by simp; omega)
  refine callT.pre (fn_of hc1) (CLx.frz 37 rfl (CLx.done ?_))
  simp
  refine callT_ex [(1000, 3), (1001, 1001)] hc1 ?_
  simp [i64c]
  intro u2
  refine callT_eq [(1000, 3), (1001, 1001)] (OutText_T v3 u2 (nb 2 ++ nbs ([p, (z : Int)].map Int.toNat))) ?_
  simp [Let.bytes, Let.kind, Let.body, nbs, hz2]
set_option maxHeartbeats 4000000 in
set_option maxRecDepth 100000 in
theorem LetTextLeave_T  (hl : (Let.leave ).rd) : callT Try.prog 11 [(Let.leave ).tv] ⟨[], []⟩ (fun x h => x = .v (.string (bs (Let.leave ).bytes)) ∧ h = []) := by
  refine callT_of_body [0, 2, 3, 4, 5, 6, 7, 8, 9, 10, 11, 13, 18, 20, 21, 30, 31, 40, 41, 51, 52, 58, 59, 64, 65, 71, 72, 78, 79] [] Try.func11 rfl (by decide) (by kernel_rfl) rfl ?_
  simp only [Let.rd] at hl
  have hk := KindLeave_T 
  simp [Let.tv, Let.ty, Let.fl, i64c, u64c]
  intro v3
  refine callT_eq [] hk ?_
  simp [Let.fl, i64c, u64c]
  intro v16
  have hc0 := OutCount_T 0 0 [] [(3 : Int)] (by simp) (by simp)
  refine callT.pre (fn_of hc0) (CLx.frz 16 rfl (CLx.nilCell 3 0 1001 1 (by decide) (by decide) rfl rfl fun v1 => CLx.done ?_))
  simp
  refine callT_ex [(1000, 3), (1001, 1001)] (OutCount_T v3 v1 [] [(3 : Int)] (by simp) (by simp)) ?_
  simp [i64c, u64c]
  intro u1
  refine callT_eq [(1000, 3), (1001, 1001)] (OutText_T v3 u1 (nb 3)) ?_
  simp [Let.bytes, Let.kind, Let.body, nbs]
set_option maxHeartbeats 4000000 in
set_option maxRecDepth 100000 in
theorem LetTextHash_T (t : Int) (q : Nat) (hl : (Let.hash t q).rd) : callT Try.prog 11 [(Let.hash t q).tv] ⟨[], []⟩ (fun x h => x = .v (.string (bs (Let.hash t q).bytes)) ∧ h = []) := by
  refine callT_of_body [0, 2, 3, 4, 5, 6, 7, 8, 9, 10, 11, 13, 18, 20, 21, 30, 31, 40, 41, 51, 52, 58, 59, 64, 65, 71, 72, 78, 79] [] Try.func11 rfl (by decide) (by kernel_rfl) rfl ?_
  simp only [Let.rd] at hl
  have hk := KindHash_T t q
  simp [Let.tv, Let.ty, Let.fl, i64c, u64c]
  intro v3
  refine callT_eq [] hk ?_
  simp [Let.fl, i64c, u64c]
  intro v16
  have hc0 := OutCount_T 0 0 [] [(4 : Int)] (by simp) (by simp)
  refine callT.pre (fn_of hc0) (CLx.frz 16 rfl (CLx.nilCell 3 0 1001 1 (by decide) (by decide) rfl rfl fun v1 => CLx.done ?_))
  simp
  refine callT_ex [(1000, 3), (1001, 1001)] (OutCount_T v3 v1 [] [(4 : Int)] (by simp) (by simp)) ?_
  simp [i64c, u64c]
  have l0 := nb_len10 (n := 4) (by decide)
  obtain ⟨ht, hh⟩ := hl
  have l1 := nb_len10 (n := t.toNat) (by omega)
  intro u1 v6
  refine draw_g [0, 1, 2, 4, 5, 6, 3] 7 [(3, [0, 1, 2])] (by kernel_rfl) (by kernel_rfl) (by kernel_rfl) ?_
  simp
  refine callT_ex [(1000, 3), (1001, 1001)] (OutCount_T v3 u1 (nb 4) [t] (by simp; omega) (by simp; omega)) ?_
  simp [i64c, u64c]
  intro u2
  refine callT_ex [(1000, 3), (1001, 1001)] (OutNum_T v3 u2 (nb 4 ++ nbs ([t].map Int.toNat)) [q] (by simp; omega) (by simp [nbs]; omega)) ?_
  simp [i64c, u64c]
  intro u3
  refine callT_eq [(1000, 3), (1001, 1001)] (OutText_T v3 u3 (nb 4 ++ nbs ([t].map Int.toNat) ++ nbs [q])) ?_
  simp [Let.bytes, Let.kind, Let.body, nbs]
set_option maxHeartbeats 4000000 in
set_option maxRecDepth 100000 in
theorem LetTextEnter_T  (hl : (Let.enter ).rd) : callT Try.prog 11 [(Let.enter ).tv] ⟨[], []⟩ (fun x h => x = .v (.string (bs (Let.enter ).bytes)) ∧ h = []) := by
  refine callT_of_body [0, 2, 3, 4, 5, 6, 7, 8, 9, 10, 11, 13, 18, 20, 21, 30, 31, 40, 41, 51, 52, 58, 59, 64, 65, 71, 72, 78, 79] [] Try.func11 rfl (by decide) (by kernel_rfl) rfl ?_
  simp only [Let.rd] at hl
  have hk := KindEnter_T 
  simp [Let.tv, Let.ty, Let.fl, i64c, u64c]
  intro v3
  refine callT_eq [] hk ?_
  simp [Let.fl, i64c, u64c]
  intro v16
  have hc0 := OutCount_T 0 0 [] [(5 : Int)] (by simp) (by simp)
  refine callT.pre (fn_of hc0) (CLx.frz 16 rfl (CLx.nilCell 3 0 1001 1 (by decide) (by decide) rfl rfl fun v1 => CLx.done ?_))
  simp
  refine callT_ex [(1000, 3), (1001, 1001)] (OutCount_T v3 v1 [] [(5 : Int)] (by simp) (by simp)) ?_
  simp [i64c, u64c]
  intro u1
  refine callT_eq [(1000, 3), (1001, 1001)] (OutText_T v3 u1 (nb 5)) ?_
  simp [Let.bytes, Let.kind, Let.body, nbs]
set_option maxHeartbeats 4000000 in
set_option maxRecDepth 100000 in
theorem LetTextReady_T (t : Int) (hl : (Let.ready t).rd) : callT Try.prog 11 [(Let.ready t).tv] ⟨[], []⟩ (fun x h => x = .v (.string (bs (Let.ready t).bytes)) ∧ h = []) := by
  refine callT_of_body [0, 2, 3, 4, 5, 6, 7, 8, 9, 10, 11, 13, 18, 20, 21, 30, 31, 40, 41, 51, 52, 58, 59, 64, 65, 71, 72, 78, 79] [] Try.func11 rfl (by decide) (by kernel_rfl) rfl ?_
  simp only [Let.rd] at hl
  have hk := KindReady_T t
  simp [Let.tv, Let.ty, Let.fl, i64c, u64c]
  intro v3
  refine callT_eq [] hk ?_
  simp [Let.fl, i64c, u64c]
  intro v16
  have hc0 := OutCount_T 0 0 [] [(6 : Int)] (by simp) (by simp)
  refine callT.pre (fn_of hc0) (CLx.frz 16 rfl (CLx.nilCell 3 0 1001 1 (by decide) (by decide) rfl rfl fun v1 => CLx.done ?_))
  simp
  refine callT_ex [(1000, 3), (1001, 1001)] (OutCount_T v3 v1 [] [(6 : Int)] (by simp) (by simp)) ?_
  simp [i64c, u64c]
  intro u1 v7 v55
  have hc1 := OutCount_T v3 u1 (nb 6) [t] (by simp; omega) (by simp; have := nb_len10 (n := 6) (by decide); omega)
  refine callT.pre (fn_of hc1) (CLx.frz 55 rfl (CLx.done ?_))
  simp
  refine callT_ex [(1000, 3), (1001, 1001)] hc1 ?_
  simp [i64c]
  intro u2
  refine callT_eq [(1000, 3), (1001, 1001)] (OutText_T v3 u2 (nb 6 ++ nbs ([t].map Int.toNat))) ?_
  simp [Let.bytes, Let.kind, Let.body, nbs]
set_option maxHeartbeats 4000000 in
set_option maxRecDepth 100000 in
theorem LetTextTurn_T (r : Rec) (hl : (Let.turn r).rd) : callT Try.prog 11 [(Let.turn r).tv] ⟨[], []⟩ (fun x h => x = .v (.string (bs (Let.turn r).bytes)) ∧ h = []) := by
  refine callT_of_body [0, 2, 3, 4, 5, 6, 7, 8, 9, 10, 11, 13, 18, 20, 21, 30, 31, 40, 41, 51, 52, 58, 59, 64, 65, 71, 72, 78, 79] [] Try.func11 rfl (by decide) (by kernel_rfl) rfl ?_
  simp only [Let.rd] at hl
  have hk := KindTurn_T r
  simp [Let.tv, Let.ty, Let.fl, i64c, u64c, Rec.cells]
  intro v3
  refine callT_eq [] hk ?_
  simp [Let.fl, i64c, u64c, Rec.cells]
  intro v16
  have hc0 := OutCount_T 0 0 [] [(7 : Int)] (by simp) (by simp)
  refine callT.pre (fn_of hc0) (CLx.frz 16 rfl (CLx.nilCell 3 0 1001 1 (by decide) (by decide) rfl rfl fun v1 => CLx.done ?_))
  simp
  refine callT_ex [(1000, 3), (1001, 1001)] (OutCount_T v3 v1 [] [(7 : Int)] (by simp) (by simp)) ?_
  simp [i64c, u64c, Rec.cells]
  have l0 := nb_len10 (n := 7) (by decide)
  intro u1 v8
  refine callT_ex [(1000, 3), (1001, 1001)] (RcPut_T v3 u1 (nb 7) r hl.ok (by omega)) ?_
  simp [Rec.cells, i64c]
  intro u2
  refine callT_eq [(1000, 3), (1001, 1001)] (OutText_T v3 u2 (nb 7 ++ r.bytes)) ?_
  simp [Let.bytes, Let.kind, Let.body, nbs]
set_option maxHeartbeats 4000000 in
set_option maxRecDepth 100000 in
theorem LetTextAsk_T (p : Int) (hl : (Let.ask p).rd) : callT Try.prog 11 [(Let.ask p).tv] ⟨[], []⟩ (fun x h => x = .v (.string (bs (Let.ask p).bytes)) ∧ h = []) := by
  refine callT_of_body [0, 2, 3, 4, 5, 6, 7, 8, 9, 10, 11, 13, 18, 20, 21, 30, 31, 40, 41, 51, 52, 58, 59, 64, 65, 71, 72, 78, 79] [] Try.func11 rfl (by decide) (by kernel_rfl) rfl ?_
  simp only [Let.rd] at hl
  have hk := KindAsk_T p
  simp [Let.tv, Let.ty, Let.fl, i64c, u64c]
  intro v3
  refine callT_eq [] hk ?_
  simp [Let.fl, i64c, u64c]
  intro v16
  have hc0 := OutCount_T 0 0 [] [(8 : Int)] (by simp) (by simp)
  refine callT.pre (fn_of hc0) (CLx.frz 16 rfl (CLx.nilCell 3 0 1001 1 (by decide) (by decide) rfl rfl fun v1 => CLx.done ?_))
  simp
  refine callT_ex [(1000, 3), (1001, 1001)] (OutCount_T v3 v1 [] [(8 : Int)] (by simp) (by simp)) ?_
  simp [i64c, u64c]
  intro u1 v9 v68
  have hc1 := OutCount_T v3 u1 (nb 8) [p] (by simp; omega) (by simp; have := nb_len10 (n := 8) (by decide); omega)
  refine callT.pre (fn_of hc1) (CLx.frz 68 rfl (CLx.done ?_))
  simp
  refine callT_ex [(1000, 3), (1001, 1001)] hc1 ?_
  simp [i64c]
  intro u2
  refine callT_eq [(1000, 3), (1001, 1001)] (OutText_T v3 u2 (nb 8 ++ nbs ([p].map Int.toNat))) ?_
  simp [Let.bytes, Let.kind, Let.body, nbs]
set_option maxHeartbeats 4000000 in
set_option maxRecDepth 100000 in
theorem LetTextWelcome_T (p : Int) (hl : (Let.welc p).rd) : callT Try.prog 11 [(Let.welc p).tv] ⟨[], []⟩ (fun x h => x = .v (.string (bs (Let.welc p).bytes)) ∧ h = []) := by
  refine callT_of_body [0, 2, 3, 4, 5, 6, 7, 8, 9, 10, 11, 13, 18, 20, 21, 30, 31, 40, 41, 51, 52, 58, 59, 64, 65, 71, 72, 78, 79] [] Try.func11 rfl (by decide) (by kernel_rfl) rfl ?_
  simp only [Let.rd] at hl
  have hk := KindWelcome_T p
  simp [Let.tv, Let.ty, Let.fl, i64c, u64c]
  intro v3
  refine callT_eq [] hk ?_
  simp [Let.fl, i64c, u64c]
  intro v16
  have hc0 := OutCount_T 0 0 [] [(9 : Int)] (by simp) (by simp)
  refine callT.pre (fn_of hc0) (CLx.frz 16 rfl (CLx.nilCell 3 0 1001 1 (by decide) (by decide) rfl rfl fun v1 => CLx.done ?_))
  simp
  refine callT_ex [(1000, 3), (1001, 1001)] (OutCount_T v3 v1 [] [(9 : Int)] (by simp) (by simp)) ?_
  simp [i64c, u64c]
  intro u1 v10 v75
  have hc1 := OutCount_T v3 u1 (nb 9) [p] (by simp; omega) (by simp; have := nb_len10 (n := 9) (by decide); omega)
  refine callT.pre (fn_of hc1) (CLx.frz 75 rfl (CLx.done ?_))
  simp
  refine callT_ex [(1000, 3), (1001, 1001)] hc1 ?_
  simp [i64c]
  intro u2
  refine callT_eq [(1000, 3), (1001, 1001)] (OutText_T v3 u2 (nb 9 ++ nbs ([p].map Int.toNat))) ?_
  simp [Let.bytes, Let.kind, Let.body, nbs]
set_option maxHeartbeats 4000000 in
set_option maxRecDepth 100000 in
theorem LetTextPiece_T (p : Pcs) (hl : (Let.piece p).rd) : callT Try.prog 11 [(Let.piece p).tv] ⟨[], []⟩ (fun x h => x = .v (.string (bs (Let.piece p).bytes)) ∧ h = []) := by
  refine callT_of_body [0, 2, 3, 4, 5, 6, 7, 8, 9, 10, 11, 13, 18, 20, 21, 30, 31, 40, 41, 51, 52, 58, 59, 64, 65, 71, 72, 78, 79] [] Try.func11 rfl (by decide) (by kernel_rfl) rfl ?_
  simp only [Let.rd] at hl
  have hk := KindPiece_T p
  simp [Let.tv, Let.ty, Let.fl, i64c, u64c, Pcs.cells]
  intro v3
  refine callT_eq [] hk ?_
  simp [Let.fl, i64c, u64c, Pcs.cells]
  intro v16
  have hc0 := OutCount_T 0 0 [] [(10 : Int)] (by simp) (by simp)
  refine callT.pre (fn_of hc0) (CLx.frz 16 rfl (CLx.nilCell 3 0 1001 1 (by decide) (by decide) rfl rfl fun v1 => CLx.done ?_))
  simp
  refine callT_ex [(1000, 3), (1001, 1001)] (OutCount_T v3 v1 [] [(10 : Int)] (by simp) (by simp)) ?_
  simp [i64c, u64c, Pcs.cells]
  have l0 := nb_len10 (n := 10) (by decide)
  intro u1 v11
  refine callT_ex [(1000, 3), (1001, 1001)] (PcPut_T v3 u1 (nb 10) p hl.ok (by omega)) ?_
  simp [Pcs.cells, i64c, u64c]
  intro u2
  refine callT_eq [(1000, 3), (1001, 1001)] (OutText_T v3 u2 (nb 10 ++ p.bytes)) ?_
  simp [Let.bytes, Let.kind, Let.body, nbs]
theorem LetText_T (l : Let) (hl : l.rd) : callT Try.prog 11 [l.tv] ⟨[], []⟩ (fun x h => x = .v (.string (bs l.bytes)) ∧ h = []) := by
  cases l with
  | give t b => exact LetTextGive_T t b hl
  | vote p y => exact LetTextVote_T p y hl
  | leave  => exact LetTextLeave_T  hl
  | hash t q => exact LetTextHash_T t q hl
  | enter  => exact LetTextEnter_T  hl
  | ready t => exact LetTextReady_T t hl
  | turn r => exact LetTextTurn_T r hl
  | ask p => exact LetTextAsk_T p hl
  | welc p => exact LetTextWelcome_T p hl
  | piece p => exact LetTextPiece_T p hl
set_option maxRecDepth 100000 in
theorem FromHost_T (l : Let) : callT Try.prog 13 [l.tv] ⟨[], []⟩ (fun x h => x = .v (.bool (decide (7 ≤ l.kind))) ∧ h = []) := by
  refine callT_of_body [0, 2, 3, 18] [] Try.func13 rfl (by decide) (by kernel_rfl) rfl ?_
  cases l with
  | give t b => simp [Let.tv, Let.ty, Let.fl, Let.kind, i64c, u64c]
  | vote p y => simp [Let.tv, Let.ty, Let.fl, Let.kind, i64c, u64c]
  | leave  => simp [Let.tv, Let.ty, Let.fl, Let.kind, i64c, u64c]
  | hash t q => simp [Let.tv, Let.ty, Let.fl, Let.kind, i64c, u64c]
  | enter  => simp [Let.tv, Let.ty, Let.fl, Let.kind, i64c, u64c]
  | ready t => simp [Let.tv, Let.ty, Let.fl, Let.kind, i64c, u64c]
  | turn r => simp [Let.tv, Let.ty, Let.fl, Let.kind, i64c, u64c]
  | ask p => simp [Let.tv, Let.ty, Let.fl, Let.kind, i64c, u64c]
  | welc p => simp [Let.tv, Let.ty, Let.fl, Let.kind, i64c, u64c]
  | piece p => simp [Let.tv, Let.ty, Let.fl, Let.kind, i64c, u64c]
end Go.Proofs.Ytkggjmoghpmelaa.TL
