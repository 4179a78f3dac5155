/- Letters: read of bytes, by the program and by the reference. -/
import Derived.Test.YtkggjmoghpmelaaULet
import Derived.Test.YtkggjmoghpmelaaURecR
import Derived.Test.YtkggjmoghpmelaaURecN
namespace Go.Proofs.Ytkggjmoghpmelaa.TL
open Go
set_option linter.unusedVariables false
set_option linter.unusedSimpArgs false

/-- What is read of bytes as a letter of a kind. -/
def In.lt (k : Int) (i : In) : In × Option Let :=
  if k = 1 then ((i.count 1099511627776).1.batch.1, some (.give (i.count 1099511627776).2 (i.count 1099511627776).1.batch.2))
  else if k = 2 then (((i.count 31).1.count 1).1, some (.vote (i.count 31).2 (decide (((i.count 31).1.count 1).2 = 1))))
  else if k = 3 then (i, some .leave)
  else if k = 4 then ((i.count 1099511627776).1.num.1, some (.hash (i.count 1099511627776).2 (i.count 1099511627776).1.num.2))
  else if k = 5 then (i, some .enter)
  else if k = 6 then ((i.count 1099511627776).1, some (.ready (i.count 1099511627776).2))
  else if k = 7 then (i.rcd.1, some (.turn i.rcd.2))
  else if k = 8 then ((i.count 31).1, some (.ask (i.count 31).2))
  else if k = 9 then ((i.count 31).1, some (.welc (i.count 31).2))
  else if k = 10 then (i.pcs.1, some (.piece i.pcs.2))
  else (i.fail 7, none)
def optTV : Option Let → TV
  | none => .v .nilIface
  | some l => l.tv
@[simp] theorem ren_let (τ : Nat → Option Nat) (l : Let) : renT τ l.tv = l.tv := by
  cases l <;> simp [Let.tv, Let.fl, renT, renL, i64c, u64c, Rec.cells, Pcs.cells]
@[simp] theorem ok_let (m : Nat → Prop) (l : Let) : okT m l.tv := by
  cases l <;> simp [Let.tv, Let.fl, okT, okL, i64c, u64c, Rec.cells, Pcs.cells]
@[simp] theorem ren_fl (τ : Nat → Option Nat) (l : Let) : renL τ l.fl = l.fl := by
  cases l <;> simp [Let.fl, renT, renL, i64c, u64c, Rec.cells, Pcs.cells]
@[simp] theorem ok_fl (m : Nat → Prop) (l : Let) : okL m l.fl := by
  cases l <;> simp [Let.fl, okT, okL, i64c, u64c, Rec.cells, Pcs.cells]
@[simp] theorem ren_olet (τ : Nat → Option Nat) (o : Option Let) : renT τ (optTV o) = optTV o := by
  cases o with
  | none => rfl
  | some l => exact ren_let τ l
@[simp] theorem ok_olet (m : Nat → Prop) (o : Option Let) : okT m (optTV o) := by
  cases o with
  | none => trivial
  | some l => exact ok_let m l

set_option maxHeartbeats 8000000 in
set_option maxRecDepth 100000 in
theorem LetRead_T (v : Nat) (i : In) (k : Int) (hk : 0 ≤ k ∧ k ≤ 10) : callT Try.prog 17 [i64c k, .at 1000 v 0] ⟨[], [(1000, v, inB i)]⟩ (fun x h => x = optTV (In.lt k i).2 ∧ h = [(1000, v, inB (In.lt k i).1)]) := by
  refine callT_of_body [0, 1, 4, 5, 6, 14, 23, 27, 35, 39, 45, 51, 57, 63] [1000] Try.func17 rfl (by decide) (by kernel_rfl) rfl ?_
  have hc : k = 0 ∨ k = 1 ∨ k = 2 ∨ k = 3 ∨ k = 4 ∨ k = 5 ∨ k = 6 ∨ k = 7 ∨ k = 8 ∨ k = 9 ∨ k = 10 := by omega
  rcases hc with rfl | rfl | rfl | rfl | rfl | rfl | rfl | rfl | rfl | rfl | rfl
  · simp [i64c]
    refine callT_eq [(1000, 1000)] (Fail_T v i 7) ?_
    simp [In.lt, optTV]
  · simp [i64c]
    refine callT_eq [(1000, 1000)] (Count_T v i 1099511627776 (by decide)) ?_
    simp
    refine callT_eq [(1000, 1000)] (Read_T v (i.count 1099511627776).1) ?_
    simp [In.lt, optTV, Let.tv, Let.ty, Let.fl, i64c, u64c]
  · simp [i64c]
    refine callT_eq [(1000, 1000)] (Count_T v i 31 (by decide)) ?_
    simp
    refine callT_eq [(1000, 1000)] (Count_T v (i.count 31).1 1 (by decide)) ?_
    by_cases hy : ((i.count 31).1.count 1).2 = 1
    · simp [In.lt, optTV, Let.tv, Let.ty, Let.fl, i64c, u64c, hy]
    · simp [In.lt, optTV, Let.tv, Let.ty, Let.fl, i64c, u64c, hy]
  · simp [i64c, In.lt, optTV, Let.tv, Let.ty, Let.fl]
  · simp [i64c]
    refine callT_eq [(1000, 1000)] (Count_T v i 1099511627776 (by decide)) ?_
    simp
    refine callT_eq [(1000, 1000)] (Num_T v (i.count 1099511627776).1) ?_
    simp [In.lt, optTV, Let.tv, Let.ty, Let.fl, i64c, u64c]
  · simp [i64c, In.lt, optTV, Let.tv, Let.ty, Let.fl]
  · simp [i64c]
    refine callT_eq [(1000, 1000)] (Count_T v i 1099511627776 (by decide)) ?_
    simp [In.lt, optTV, Let.tv, Let.ty, Let.fl, i64c, u64c]
  · simp [i64c]
    refine callT_eq [(1000, 1000)] (RcRead_T v i) ?_
    simp [In.lt, optTV, Let.tv, Let.ty, Let.fl, i64c, u64c, Rec.cells]
  · simp [i64c]
    refine callT_eq [(1000, 1000)] (Count_T v i 31 (by decide)) ?_
    simp [In.lt, optTV, Let.tv, Let.ty, Let.fl, i64c, u64c]
  · simp [i64c]
    refine callT_eq [(1000, 1000)] (Count_T v i 31 (by decide)) ?_
    simp [In.lt, optTV, Let.tv, Let.ty, Let.fl, i64c, u64c]
  · simp [i64c]
    refine callT_eq [(1000, 1000)] (PcRead_T v i) ?_
    simp [In.lt, optTV, Let.tv, Let.ty, Let.fl, i64c, u64c, Pcs.cells]
def letParse (l : List UInt8) : Option Let × Int :=
  if ((In.mk l 0).count 10).1.e ≠ 0 then (none, ((In.mk l 0).count 10).1.e)
  else if (In.lt ((In.mk l 0).count 10).2 ((In.mk l 0).count 10).1).1.fin.e ≠ 0 then (none, (In.lt ((In.mk l 0).count 10).2 ((In.mk l 0).count 10).1).1.fin.e)
  else ((In.lt ((In.mk l 0).count 10).2 ((In.mk l 0).count 10).1).2, 0)
set_option maxHeartbeats 2000000 in
set_option maxRecDepth 100000 in
theorem LetParse_T (l : List UInt8) : callT Try.prog 8 [.v (.string (bs l))] ⟨[], []⟩ (fun x h => x = .tup [optTV (letParse l).1, i64c (letParse l).2] ∧ h = []) := by
  refine callT_of_body [0, 2, 3, 4, 5, 6, 7, 14, 23] [] Try.func8 rfl (by decide) (by kernel_rfl) rfl ?_
  have hk := In.count_le (In.mk l 0) 10 (by decide)
  unfold letParse
  simp
  refine callT_ex [(5, 4)] (Open_T l) ?_
  simp
  intro v4
  refine callT_eq [(1000, 4)] (Count_T v4 ⟨l, 0⟩ 10 (by decide)) ?_
  generalize (In.mk l 0).count 10 = C at hk ⊢
  obtain ⟨i, k⟩ := C
  simp only at hk
  simp
  refine callT_eq [(1000, 4)] (Err_T v4 i) ?_
  by_cases he : i.e = 0
  · simp [he]
    refine callT_eq [(1000, 4)] (LetRead_T v4 i k (by omega)) ?_
    generalize In.lt k i = R
    obtain ⟨j, o⟩ := R
    simp [i64c, he]
    refine callT_eq [(1000, 4)] (End_T v4 j) ?_
    by_cases hf : j.fin.e = 0
    · simp [hf]
    · simp [hf, optTV]
  · simp [he]
    refine callT_eq [(1000, 4)] (Err_T v4 i) ?_
    simp [he, optTV, i64c]

set_option maxRecDepth 100000 in
theorem LEndR_T (i : In) : callT Try.prog 20 [rIn i] ⟨[], []⟩ (fun r h => r = i64c i.fin.e ∧ h = []) := by
  refine callT_of_body [0, 1, 2, 10] [] Try.func20 rfl (by decide) (by kernel_rfl) rfl ?_
  obtain ⟨l, e⟩ := i
  by_cases he : e = 0
  · subst he
    cases l with
    | nil => simp [i64c, In.fin]
    | cons a l => simp [i64c, In.fin, In.fail]
  · cases l with
    | nil => simp [i64c, In.fin, he]
    | cons a l => simp [i64c, In.fin, In.fail, he]

set_option maxHeartbeats 8000000 in
set_option maxRecDepth 100000 in
theorem LetBody_T (i : In) (k : Int) (hk : 1 ≤ k ∧ k ≤ 10) : callT Try.prog 21 [rIn i, i64c k] ⟨[], []⟩ (fun x h => x = rIn (In.lt k i).1 ∧ h = []) := by
  refine callT_of_body [0, 1, 2, 4, 5, 6, 8, 10, 12, 14, 16, 18, 20, 22, 24, 26, 27, 41, 54, 68, 77, 85, 94] [] Try.func21 rfl (by decide) (by kernel_rfl) rfl ?_
  have hc : k = 1 ∨ k = 2 ∨ k = 3 ∨ k = 4 ∨ k = 5 ∨ k = 6 ∨ k = 7 ∨ k = 8 ∨ k = 9 ∨ k = 10 := by omega
  rcases hc with rfl | rfl | rfl | rfl | rfl | rfl | rfl | rfl | rfl | rfl
  · simp [i64c]
    intro v2 v4
    refine callT_eq [] (TakeCountR_T i 1099511627776 (by decide)) ?_
    simp
    intro v6
    refine callT_eq [] (Rd9R_T (i.count 1099511627776).1) ?_
    simp [In.lt, batch_bat]
  · simp [i64c]
    intro v2 v4
    refine callT_eq [] (TakeCountR_T i 31 (by decide)) ?_
    simp
    intro v6
    refine callT_eq [] (TakeCountR_T (i.count 31).1 1 (by decide)) ?_
    simp [In.lt]
  · simp [i64c, In.lt]
  · simp [i64c]
    intro v2 v4
    refine callT_eq [] (TakeCountR_T i 1099511627776 (by decide)) ?_
    simp
    intro v6
    refine callT_eq [] (TakeNumR_T (i.count 1099511627776).1) ?_
    simp [In.lt]
  · simp [i64c, In.lt]
  · simp [i64c]
    intro v2 v4
    refine callT_eq [] (TakeCountR_T i 1099511627776 (by decide)) ?_
    simp [In.lt]
  · simp [i64c]
    intro v2 v4
    refine callT_eq [] (RcReadR_T i) ?_
    simp [In.lt, Rec.cells, i64c]
  · simp [i64c]
    intro v2 v4
    refine callT_eq [] (TakeCountR_T i 31 (by decide)) ?_
    simp [In.lt]
  · simp [i64c]
    intro v2 v4
    refine callT_eq [] (TakeCountR_T i 31 (by decide)) ?_
    simp [In.lt]
  · simp [i64c]
    intro v2 v4
    refine callT_eq [] (PcReadR_T i) ?_
    simp [In.lt, Pcs.cells, i64c, u64c]
def letCheck (l : List UInt8) : Int × Int :=
  if ((In.mk l 0).count 10).1.e ≠ 0 then (0, ((In.mk l 0).count 10).1.e)
  else if ((In.mk l 0).count 10).2 = 0 then (0, 7)
  else (((In.mk l 0).count 10).2, (In.lt ((In.mk l 0).count 10).2 ((In.mk l 0).count 10).1).1.fin.e)
set_option maxHeartbeats 2000000 in
set_option maxRecDepth 100000 in
theorem LetCheck_T (l : List UInt8) : callT Try.prog 9 [.v (.string (bs l))] ⟨[], []⟩ (fun x h => x = .tup [i64c (letCheck l).1, i64c (letCheck l).2] ∧ h = []) := by
  refine callT_of_body [0, 2, 3, 4, 5, 14, 18] [] Try.func9 rfl (by decide) (by kernel_rfl) rfl ?_
  have hk := In.count_le (In.mk l 0) 10 (by decide)
  unfold letCheck
  simp
  refine callT_eq [] (TakeCountR_T ⟨l, 0⟩ 10 (by decide)) ?_
  generalize (In.mk l 0).count 10 = C at hk ⊢
  obtain ⟨i, k⟩ := C
  simp only at hk
  by_cases he : i.e = 0
  · by_cases hk0 : k = 0
    · simp [he, hk0, i64c]
    · simp [he, hk0, i64c]
      intro v4
      refine callT_eq [] (LetBody_T i k (by omega)) ?_
      simp [i64c, he]
      refine callT_eq [] (LEndR_T (In.lt k i).1) ?_
      simp [i64c]
  · simp [he, i64c]
    intro v4
    refine draw_g [0, 1, 2] 3 [] (by kernel_rfl) (by kernel_rfl) (by kernel_rfl) ?_
    simp [he, i64c]

/-- A letter that may be is read of its bytes; what is read is written the same. -/
def Let.wf : Let → Prop
  | .give t b => (0 ≤ t ∧ t ≤ 1099511627776) ∧ (∀ o ∈ b, o.chk = 0 ∧ o.ok) ∧ b.length ≤ 8
  | .turn r => r.wf
  | l => l.rd
theorem Let.wf.rd {l : Let} (h : l.wf) : l.rd := by
  cases l with
  | give t b => exact ⟨h.1, fun o ho => (h.2.1 o ho).2, h.2.2⟩
  | turn r => exact Rec.wf.rd h
  | _ => exact h
theorem let_nb (rest : List UInt8) {l : Let} (h : l.wf) : In.lt l.kind ⟨l.body ++ rest, 0⟩ = (⟨rest, 0⟩, some l) := by
  cases l with
  | give t b =>
    obtain ⟨h1, h2, h3⟩ := h
    have k1 := In.count_nb (batchB b ++ rest) (n := t.toNat) (m := 1099511627776) (by decide) (by omega)
    have k2 := batch_nb rest h2 h3
    have e2 : ((t.toNat : Nat) : Int) = t := by omega
    simp [In.lt, Let.kind, Let.body, k1, k2, e2]
  | vote p y =>
    have h' : 0 ≤ p ∧ p ≤ 31 := h
    have e2 : ((p.toNat : Nat) : Int) = p := by omega
    cases y with
    | true =>
      have k1 := In.count_nb (nb 1 ++ rest) (n := p.toNat) (m := 31) (by decide) (by omega)
      have k2 := In.count_nb rest (n := 1) (m := 1) (by decide) (by decide)
      simp [In.lt, Let.kind, Let.body, k1, k2, e2]
    | false =>
      have k1 := In.count_nb (nb 0 ++ rest) (n := p.toNat) (m := 31) (by decide) (by omega)
      have k2 := In.count_nb rest (n := 0) (m := 1) (by decide) (by decide)
      simp [In.lt, Let.kind, Let.body, k1, k2, e2]
  | leave => simp [In.lt, Let.kind, Let.body]
  | enter => simp [In.lt, Let.kind, Let.body]
  | hash t q =>
    obtain ⟨h1, h2⟩ := h
    have k1 := In.count_nb (nb q ++ rest) (n := t.toNat) (m := 1099511627776) (by decide) (by omega)
    have k2 := In.num_nb rest (n := q) h2
    have e2 : ((t.toNat : Nat) : Int) = t := by omega
    simp [In.lt, Let.kind, Let.body, k1, k2, e2]
  | ready t =>
    have h' : 0 ≤ t ∧ t ≤ 1099511627776 := h
    have k1 := In.count_nb rest (n := t.toNat) (m := 1099511627776) (by decide) (by omega)
    have e2 : ((t.toNat : Nat) : Int) = t := by omega
    simp [In.lt, Let.kind, Let.body, k1, e2]
  | turn r =>
    have k1 := rcd_nb rest (r := r) h
    simp [In.lt, Let.kind, Let.body, k1]
  | ask p =>
    have h' : 0 ≤ p ∧ p ≤ 31 := h
    have k1 := In.count_nb rest (n := p.toNat) (m := 31) (by decide) (by omega)
    have e2 : ((p.toNat : Nat) : Int) = p := by omega
    simp [In.lt, Let.kind, Let.body, k1, e2]
  | welc p =>
    have h' : 0 ≤ p ∧ p ≤ 31 := h
    have k1 := In.count_nb rest (n := p.toNat) (m := 31) (by decide) (by omega)
    have e2 : ((p.toNat : Nat) : Int) = p := by omega
    simp [In.lt, Let.kind, Let.body, k1, e2]
  | piece p =>
    have k1 := pcs_nb rest (p := p) h
    simp [In.lt, Let.kind, Let.body, k1]
theorem kind_le (l : Let) : 1 ≤ l.kind ∧ l.kind ≤ 10 := by cases l <;> simp [Let.kind]
theorem letparse_nb {l : Let} (h : l.wf) : letParse l.bytes = (some l, 0) := by
  have hk := kind_le l
  have k1 := In.count_nb l.body (n := l.kind) (m := 10) (by decide) (by omega)
  have k2 := let_nb [] h
  rw [List.append_nil] at k2
  unfold letParse Let.bytes
  rw [k1]
  simp [k2, In.fin]
theorem lt_ok {k : Int} {i : In} {l : Let} (hk : (In.lt k i).2 = some l) (h : (In.lt k i).1.e = 0) : i.e = 0 ∧ k = l.kind ∧ i.l = l.body ++ (In.lt k i).1.l ∧ l.rd := by
  unfold In.lt at hk h ⊢
  by_cases h1 : k = 1
  · simp only [h1, if_true, Option.some.injEq] at hk h ⊢
    subst hk
    obtain ⟨a1, a2, a3, a4⟩ := batch_ok h
    obtain ⟨b1, b2⟩ := In.count_ok a1
    have hc := i.count_le 1099511627776 (by decide)
    exact ⟨b1, rfl, by rw [b2, a2]; simp [Let.body], hc, a3, a4⟩
  by_cases h2 : k = 2
  · simp [h2] at hk h ⊢
    subst hk
    obtain ⟨a1, a2⟩ := In.count_ok h
    obtain ⟨b1, b2⟩ := In.count_ok a1
    have hc := i.count_le 31 (by decide)
    have hc2 := (i.count 31).1.count_le 1 (by decide)
    refine ⟨b1, rfl, ?_, hc⟩
    rw [b2, a2]
    by_cases hy : ((i.count 31).1.count 1).2 = 1
    · simp [Let.body, hy]
    · have : ((i.count 31).1.count 1).2 = 0 := by omega
      simp [Let.body, this]
  by_cases h3 : k = 3
  · simp [h3] at hk h ⊢
    subst hk
    exact ⟨h, rfl, by simp [Let.body], trivial⟩
  by_cases h4 : k = 4
  · simp [h4] at hk h ⊢
    subst hk
    obtain ⟨a1, a2⟩ := In.num_ok h
    obtain ⟨b1, b2⟩ := In.count_ok a1
    have hc := i.count_le 1099511627776 (by decide)
    exact ⟨b1, rfl, by rw [b2, a2]; simp [Let.body], hc, In.num_lt _⟩
  by_cases h5 : k = 5
  · simp [h5] at hk h ⊢
    subst hk
    exact ⟨h, rfl, by simp [Let.body], trivial⟩
  by_cases h6 : k = 6
  · simp [h6] at hk h ⊢
    subst hk
    obtain ⟨b1, b2⟩ := In.count_ok h
    have hc := i.count_le 1099511627776 (by decide)
    exact ⟨b1, rfl, by rw [b2]; simp [Let.body], hc⟩
  by_cases h7 : k = 7
  · simp [h7] at hk h ⊢
    subst hk
    obtain ⟨b1, b2, b3⟩ := rcd_ok h
    exact ⟨b1, rfl, b2, b3⟩
  by_cases h8 : k = 8
  · simp [h8] at hk h ⊢
    subst hk
    obtain ⟨b1, b2⟩ := In.count_ok h
    have hc := i.count_le 31 (by decide)
    exact ⟨b1, rfl, by rw [b2]; simp [Let.body], hc⟩
  by_cases h9 : k = 9
  · simp [h9] at hk h ⊢
    subst hk
    obtain ⟨b1, b2⟩ := In.count_ok h
    have hc := i.count_le 31 (by decide)
    exact ⟨b1, rfl, by rw [b2]; simp [Let.body], hc⟩
  by_cases h10 : k = 10
  · simp [h10] at hk h ⊢
    subst hk
    obtain ⟨b1, b2, b3⟩ := pcs_ok h
    exact ⟨b1, rfl, b2, b3⟩
  · simp [h1, h2, h3, h4, h5, h6, h7, h8, h9, h10] at hk

end Go.Proofs.Ytkggjmoghpmelaa.TL
