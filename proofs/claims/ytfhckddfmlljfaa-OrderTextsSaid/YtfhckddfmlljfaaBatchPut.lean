/- Batch.Put and Batch.Text (order): the bytes of a batch. -/
import Derived.Test.YtfhckddfmlljfaaEmitInt
import Derived.Test.YtfhckddfmlljfaaWWords
import Derived.Test.YtfhckddfmlljfaaWLast
import Derived.Deep.Slices
namespace Go.Proofs.Ytfhckddfmlljfaa
open Go.RowKit Go.Proofs.YtfhckddfmlljfaaW.PrintWords Go.Proofs.YtfhckddfmlljfaaW.PrintLast
set_option linter.unusedVariables false
set_option linter.unusedSimpArgs false

/-- An order: kind, unit, a, b. -/
abbrev Ord := Int × Int × Int × Int
def Ord.wf (o : Ord) : Prop := (-9223372036854775808 ≤ o.1 ∧ o.1 ≤ 9223372036854775807) ∧ (-9223372036854775808 ≤ o.2.1 ∧ o.2.1 ≤ 9223372036854775807) ∧ (-9223372036854775808 ≤ o.2.2.1 ∧ o.2.2.1 ≤ 9223372036854775807) ∧ (-9223372036854775808 ≤ o.2.2.2 ∧ o.2.2.2 ≤ 9223372036854775807)
/-- An order's cells. -/
def OrdAt (w : World) (p : Addr) (x : Ord) : Prop := w.cell? p = some (.int .i64 x.1) ∧ w.cell? ⟨p.block, p.off + 1, none⟩ = some (.int .i64 x.2.1) ∧ w.cell? ⟨p.block, p.off + 2, none⟩ = some (.int .i64 x.2.2.1) ∧ w.cell? ⟨p.block, p.off + 3, none⟩ = some (.int .i64 x.2.2.2)
theorem OrdAt.kp {w w' : World} {p : Addr} {x : Ord} {S : Nat → Prop} (h : OrdAt w p x) (k : Kp S w w') (hS : ¬ S p.block) : OrdAt w' p x :=
  ⟨k.cell h.1 hS, k.cell h.2.1 hS, k.cell h.2.2.1 hS, k.cell h.2.2.2 hS⟩
theorem add_blk (p : Addr) (n : Nat) : (p.add n).block = p.block := by unfold Addr.add; split <;> rfl
/-- A row of orders that is read. -/
def Ords (w : World) (A : Option Addr) (os : List Ord) : Prop :=
  os = [] ∨ ∃ ad, A = some ad ∧ ∀ (j : Nat) (x : Ord), os[j]? = some x → OrdAt w (ad.add (j * 4)) x
/-- An order's bytes. -/
def ob (o : Ord) : List UInt8 := cbs [o.1] ++ nbs [IntKind.u64.wrap o.2.1] ++ ibs [o.2.2.1, o.2.2.2]
def obs (os : List Ord) : List UInt8 := os.flatMap ob
theorem wrap_u64_in (x : Int) : 0 ≤ IntKind.u64.wrap x ∧ IntKind.u64.wrap x < 18446744073709551616 := by rw [IntKind.wrap_u64]; omega
theorem ob_length {o : Ord} (h : o.wf) : (ob o).length ≤ 40 := by
  have h1 := cbs_length [o.1] (by simpa using h.1.2)
  have h2 := nbs_length [IntKind.u64.wrap o.2.1] (by simpa using (wrap_u64_in o.2.1).2)
  have h3 := ibs_length [o.2.2.1, o.2.2.2] (by simpa using ⟨h.2.2.1, h.2.2.2⟩)
  unfold ob; simp only [List.length_append] at *; simp at h1 h2 h3; omega
theorem obs_length : ∀ os : List Ord, (∀ o ∈ os, o.wf) → (obs os).length ≤ 40 * os.length
  | [], _ => by simp [obs]
  | o :: os, h => by
    have h1 := obs_length os fun x hx => h x (by simp [hx])
    have h2 := ob_length (h o (by simp))
    have e : obs (o :: os) = ob o ++ obs os := by simp [obs]
    rw [e, List.length_append, List.length_cons]; omega
set_option maxRecDepth 100000 in
set_option maxHeartbeats 4000000 in
theorem batch_put (g : Nat) (rb : Option Nat) (l : List UInt8) (A : Option Addr) (c : Nat) (os : List Ord) (w : World) (h : OutAt w g rb l) (hr : Ords w A os)
    (hd : ∀ a, A = some a → a.block ≠ g ∧ some a.block ≠ rb) (hc : os.length ≤ c) (hwf : ∀ o ∈ os, o.wf) (hb : l.length + 40 * os.length ≤ 549755813000) :
    Calls Try.prog 50 #[.slice A os.length c, .pointer (some ⟨g, 0, none⟩)] w fun x w' => x = .returned (.tuple #[]) ∧ OutTo w w' g rb (l ++ cbs [(os.length : Int)] ++ obs os) := by
  have HH := hid h; have HR := hid hr; have HD := hid hd; have HW := hid hwf
  clear h hr hd hwf
  go_enter Try.func50, Try.ntmps50
  go_wp2_with (go_at_call 68; refine (count_out g rb l _ 1 [(os.length : Int)] _ (HH.out.alloc _) (Ints.lit w .i64 [(os.length : Int)] _) HH.out.apart (by simp) (by simp; omega) (by simp; omega)).mono ?_; rintro x w1 ⟨rfl, hot1⟩; have HO1 := hid hot1.alloc; clear hot1)
  have hl0 := cbs_length [(os.length : Int)] (by simp; omega)
  simp only [List.length_singleton] at hl0
  go_loopw [5, 13] (fun _ v13 wr => ∃ i : Nat, i ≤ os.length ∧ v13 = .int .i64 i ∧ OutTo w wr g rb (l ++ cbs [(os.length : Int)] ++ obs (os.take i))) (fun _ v13 _ => os.length - (intOf v13).toNat)
  case atStart => exact ⟨0, Nat.zero_le _, rfl, by simpa [obs] using HO1.out⟩
  case round =>
    obtain ⟨i, hi, rfl, hot⟩ := hrel
    have HOT := hid hot; clear hot
    by_cases hlt : i < os.length
    · obtain ⟨ad, rfl, hcell⟩ : ∃ ad, A = some ad ∧ ∀ (j : Nat) (x : Ord), os[j]? = some x → OrdAt w (ad.add (j * 4)) x := by
        rcases HR.out with h | h
        · subst h; simp at hlt
        · exact h
      obtain ⟨o0, ho0⟩ : ∃ o0, os[i]? = some o0 := ⟨_, List.getElem?_eq_getElem hlt⟩
      have hw0 := HW.out o0 (List.mem_of_getElem? ho0)
      have hlen := obs_length (os.take i) fun x hx => HW.out x (List.mem_of_mem_take hx)
      obtain ⟨c0, c1, c2, c3⟩ := (by obtain ⟨_, _, _, k⟩ := HOT.out; exact (hcell i o0 ho0).kp k (by rw [add_blk]; exact fun x => by have := HD.out _ rfl; exact x.elim this.1 this.2) : OrdAt wr (ad.add (i * 4)) o0)
      have htk : obs (os.take (i + 1)) = obs (os.take i) ++ ob o0 := by
        rw [List.take_add_one, ho0]; simp [obs]
      rw [List.length_take, Nat.min_eq_left hi] at hlen
      have HTK := hid htk; clear htk ho0 hcell
      generalize obs (os.take i) = done at *
      obtain ⟨rb1, hot, hrb, hk⟩ := HOT.out
      obtain ⟨kd, un, xa, xb⟩ := o0
      simp only at c0 c1 c2 c3
      have HOA := hid hot; have HRB := hid hrb; have HKP := hid hk; have HWF := hid hw0
      clear hot hrb hk hw0
      go_wp2
      generalize hq : wr.heap.size = q
      generalize hW0 : wr.alloc (.cells #[.int .i64 kd, .int .i64 un, .int .i64 xa, .int .i64 xb] 44) = W0
      have QB : Box W0 q [.int .i64 kd, .int .i64 un, .int .i64 xa, .int .i64 xb] 44 := by rw [← hW0, ← hq]; exact Box.new wr [.int .i64 kd, .int .i64 un, .int .i64 xa, .int .i64 xb] _
      have QO : OutAt W0 g rb1 (l ++ cbs [(os.length : Int)] ++ done) := by rw [← hW0]; exact HOA.out.alloc _
      have QN : ¬ (q = g ∨ some q = rb1) := by have := HOA.out.apart _ rfl; rw [hq] at this; exact fun x => x.elim this.1 this.2
      have QK := hid (show Kp (fun k => k = g ∨ some k = rb) w W0 by rw [← hW0]; exact HKP.out.alloc _)
      have p0 := hid (QB.cell 0 rfl); have p1 := hid (QB.cell 1 rfl); have p2 := hid (QB.cell 2 rfl); have p3 := hid (QB.cell 3 rfl)
      have hst := (St.start QO).drew
      have hwk : kd ≤ 9223372036854775807 := HWF.out.1.2
      have hwa := HWF.out.2.2.1; have hwb := HWF.out.2.2.2
      simp only at hwa hwb
      have hl1 := cbs_length [kd] (by simpa using hwk)
      have hl2 := nbs_length [IntKind.u64.wrap un] (by simpa using (wrap_u64_in un).2)
      simp only [List.length_singleton] at hl1 hl2
      clear hW0 hq QB QO
      refine start_ (n := 16) (S := fun w' => w'.cell? ⟨q, 0, none⟩ = some (.int .i64 kd) ∧ w'.cell? ⟨q, 1, none⟩ = some (.int .i64 un) ∧ w'.cell? ⟨q, 2, none⟩ = some (.int .i64 xa) ∧ w'.cell? ⟨q, 3, none⟩ = some (.int .i64 xb)) (ds := []) #[false, false, false, false, false, false, false, false, false, false, false, false, false, false, false, false] (by kernel_rfl) rfl rfl ⟨(hst.cell p0.out QN), (hst.cell p1.out QN), (hst.cell p2.out QN), (hst.cell p3.out QN)⟩ (fun hHeld => ?_)
      refine pure_ (i := 0) (N := some 17) (v := ?_) (a' := ?_) #[true, false, false, false, false, false, false, false, false, false, false, false, false, false, false, false] rfl rfl (by kernel_rfl) (fun _ _ _ h => h) (Or.inl ⟨by rfl, ?_⟩) ?_ ?_
      rotate_left
      · intro w'
        go_simp
        with_reducible rfl
      rotate_left
      · simp only [Act.put, List.setIfInBounds_toArray, List.set_cons_zero, List.set_cons_succ, i64_w, i32_w]
        rfl
      refine pure_ (i := 1) (N := some 18) (v := ?_) (a' := ?_) #[true, true, false, false, false, false, false, false, false, false, false, false, false, false, false, false] rfl rfl (by kernel_rfl) (fun _ _ _ h => h) (Or.inl ⟨by rfl, ?_⟩) ?_ ?_
      rotate_left
      · intro w'
        go_simp
        with_reducible rfl
      rotate_left
      · simp only [Act.put, List.setIfInBounds_toArray, List.set_cons_zero, List.set_cons_succ, i64_w, i32_w]
        rfl
      refine pure_ (i := 5) (N := some 22) (v := ?_) (a' := ?_) #[true, true, false, false, false, true, false, false, false, false, false, false, false, false, false, false] rfl rfl (by kernel_rfl) (fun _ _ _ h => h) (Or.inl ⟨by rfl, ?_⟩) ?_ ?_
      rotate_left
      · intro w'
        go_simp
        with_reducible rfl
      rotate_left
      · simp only [Act.put, List.setIfInBounds_toArray, List.set_cons_zero, List.set_cons_succ, i64_w, i32_w]
        rfl
      refine pure_ (i := 10) (N := some 27) (v := ?_) (a' := ?_) #[true, true, false, false, false, true, false, false, false, false, true, false, false, false, false, false] rfl rfl (by kernel_rfl) (fun _ _ _ h => h) (Or.inl ⟨by rfl, ?_⟩) ?_ ?_
      rotate_left
      · intro w'
        go_simp
        with_reducible rfl
      rotate_left
      · simp only [Act.put, List.setIfInBounds_toArray, List.set_cons_zero, List.set_cons_succ, i64_w, i32_w]
        rfl
      refine pure_ (i := 12) (N := some 29) (v := ?_) (a' := ?_) #[true, true, false, false, false, true, false, false, false, false, true, false, true, false, false, false] rfl rfl (by kernel_rfl) (fun _ _ _ h => h) (Or.inl ⟨by rfl, ?_⟩) ?_ ?_
      rotate_left
      · intro w'
        go_simp
        with_reducible rfl
      rotate_left
      · simp only [Act.put, List.setIfInBounds_toArray, List.set_cons_zero, List.set_cons_succ, i64_w, i32_w]
        rfl
      refine take_ (i := 2) (N := some 19) (v := ?_) (a' := ?_) #[true, true, true, false, false, true, false, false, false, false, true, false, true, false, false, false] rfl rfl (by kernel_rfl) (fun _ _ _ h => h) (Or.inl ⟨by rfl, ?_⟩) hHeld ?_ ?_
      rotate_left
      · rintro w' ⟨s0, s1, s2, s3⟩
        go_simp
        with_reducible rfl
      rotate_left
      · simp only [Act.put, List.setIfInBounds_toArray, List.set_cons_zero, List.set_cons_succ, i64_w, i32_w]
        rfl
      refine take_ (i := 6) (N := some 23) (v := ?_) (a' := ?_) #[true, true, true, false, false, true, true, false, false, false, true, false, true, false, false, false] rfl rfl (by kernel_rfl) (fun _ _ _ h => h) (Or.inl ⟨by rfl, ?_⟩) hHeld ?_ ?_
      rotate_left
      · rintro w' ⟨s0, s1, s2, s3⟩
        go_simp
        with_reducible rfl
      rotate_left
      · simp only [Act.put, List.setIfInBounds_toArray, List.set_cons_zero, List.set_cons_succ, i64_w, i32_w]
        rfl
      refine pure_ (i := 7) (N := some 24) (v := ?_) (a' := ?_) #[true, true, true, false, false, true, true, true, false, false, true, false, true, false, false, false] rfl rfl (by kernel_rfl) (fun _ _ _ h => h) (Or.inl ⟨by rfl, ?_⟩) ?_ ?_
      rotate_left
      · intro w'
        go_simp
        with_reducible rfl
      rotate_left
      · simp only [Act.put, List.setIfInBounds_toArray, List.set_cons_zero, List.set_cons_succ, i64_w, i32_w]
        rfl
      refine take_ (i := 11) (N := some 28) (v := ?_) (a' := ?_) #[true, true, true, false, false, true, true, true, false, false, true, true, true, false, false, false] rfl rfl (by kernel_rfl) (fun _ _ _ h => h) (Or.inl ⟨by rfl, ?_⟩) hHeld ?_ ?_
      rotate_left
      · rintro w' ⟨s0, s1, s2, s3⟩
        go_simp
        with_reducible rfl
      rotate_left
      · simp only [Act.put, List.setIfInBounds_toArray, List.set_cons_zero, List.set_cons_succ, i64_w, i32_w]
        rfl
      refine take_ (i := 13) (N := some 30) (v := ?_) (a' := ?_) #[true, true, true, false, false, true, true, true, false, false, true, true, true, true, false, false] rfl rfl (by kernel_rfl) (fun _ _ _ h => h) (Or.inl ⟨by rfl, ?_⟩) hHeld ?_ ?_
      rotate_left
      · rintro w' ⟨s0, s1, s2, s3⟩
        go_simp
        with_reducible rfl
      rotate_left
      · simp only [Act.put, List.setIfInBounds_toArray, List.set_cons_zero, List.set_cons_succ, i64_w, i32_w]
        rfl
      refine join_ (σ := Nat × Nat × Nat) 1 #[true, true, true, true, true, true, true, true, true, true, true, true, true, true, true, false] (fun s_ => [(20, .slice (some ⟨s_.1, 0, none⟩) 1 1), (21, .pointer (some ⟨g, 0, none⟩)), (25, .slice (some ⟨s_.2.1, 0, none⟩) 1 1), (26, .pointer (some ⟨g, 0, none⟩)), (31, .slice (some ⟨s_.2.2, 0, none⟩) 2 2)]) (fun s_ w' => St W0 w' g rb1 (((l ++ cbs [(os.length : Int)] ++ done) ++ cbs [kd]) ++ nbs [IntKind.u64.wrap un]) [(.cnt [kd], s_.1), (.nat [IntKind.u64.wrap un], s_.2.1), (.int [xa, xb], s_.2.2)] ∧ (w'.cell? ⟨q, 0, none⟩ = some (.int .i64 kd)) ∧ (w'.cell? ⟨q, 1, none⟩ = some (.int .i64 un)) ∧ (w'.cell? ⟨q, 2, none⟩ = some (.int .i64 xa)) ∧ (w'.cell? ⟨q, 3, none⟩ = some (.int .i64 xb))) ?_ ?_
      rotate_left
      · intro hJ3_4_8_9_14
        refine join_ (σ := Nat × Nat × Nat) 2 #[true, true, true, true, true, true, true, true, true, true, true, true, true, true, false, false] (fun s_ => [(20, .slice (some ⟨s_.1, 0, none⟩) 1 1), (21, .pointer (some ⟨g, 0, none⟩)), (25, .slice (some ⟨s_.2.1, 0, none⟩) 1 1), (26, .pointer (some ⟨g, 0, none⟩))]) (fun s_ w' => St W0 w' g rb1 (((l ++ cbs [(os.length : Int)] ++ done) ++ cbs [kd]) ++ nbs [IntKind.u64.wrap un]) [(.cnt [kd], s_.1), (.nat [IntKind.u64.wrap un], s_.2.1)] ∧ (w'.cell? ⟨q, 0, none⟩ = some (.int .i64 kd)) ∧ (w'.cell? ⟨q, 1, none⟩ = some (.int .i64 un)) ∧ (w'.cell? ⟨q, 2, none⟩ = some (.int .i64 xa)) ∧ (w'.cell? ⟨q, 3, none⟩ = some (.int .i64 xb))) ?_ ?_
        rotate_left
        · intro hJ3_4_8_9
          refine join_ (σ := Nat × Nat × Nat) 2 #[true, true, true, true, true, true, true, true, true, false, true, true, true, true, true, false] (fun s_ => [(20, .slice (some ⟨s_.1, 0, none⟩) 1 1), (21, .pointer (some ⟨g, 0, none⟩)), (25, .slice (some ⟨s_.2.1, 0, none⟩) 1 1), (31, .slice (some ⟨s_.2.2, 0, none⟩) 2 2)]) (fun s_ w' => St W0 w' g rb1 ((l ++ cbs [(os.length : Int)] ++ done) ++ cbs [kd]) [(.cnt [kd], s_.1), (.nat [IntKind.u64.wrap un], s_.2.1), (.int [xa, xb], s_.2.2)] ∧ (w'.cell? ⟨q, 0, none⟩ = some (.int .i64 kd)) ∧ (w'.cell? ⟨q, 1, none⟩ = some (.int .i64 un)) ∧ (w'.cell? ⟨q, 2, none⟩ = some (.int .i64 xa)) ∧ (w'.cell? ⟨q, 3, none⟩ = some (.int .i64 xb))) ?_ ?_
          rotate_left
          · intro hJ3_4_8_14
            refine join_ (σ := Nat × Nat × Nat) 3 #[true, true, true, true, true, true, true, true, true, false, true, true, true, true, false, false] (fun s_ => [(20, .slice (some ⟨s_.1, 0, none⟩) 1 1), (21, .pointer (some ⟨g, 0, none⟩)), (25, .slice (some ⟨s_.2.1, 0, none⟩) 1 1)]) (fun s_ w' => St W0 w' g rb1 ((l ++ cbs [(os.length : Int)] ++ done) ++ cbs [kd]) [(.cnt [kd], s_.1), (.nat [IntKind.u64.wrap un], s_.2.1)] ∧ (w'.cell? ⟨q, 0, none⟩ = some (.int .i64 kd)) ∧ (w'.cell? ⟨q, 1, none⟩ = some (.int .i64 un)) ∧ (w'.cell? ⟨q, 2, none⟩ = some (.int .i64 xa)) ∧ (w'.cell? ⟨q, 3, none⟩ = some (.int .i64 xb))) ?_ ?_
            rotate_left
            · intro hJ3_4_8
              refine join_ (σ := Nat × Nat × Nat) 3 #[true, true, true, true, true, true, true, true, false, false, true, true, true, true, true, false] (fun s_ => [(20, .slice (some ⟨s_.1, 0, none⟩) 1 1), (21, .pointer (some ⟨g, 0, none⟩)), (31, .slice (some ⟨s_.2.2, 0, none⟩) 2 2)]) (fun s_ w' => St W0 w' g rb1 ((l ++ cbs [(os.length : Int)] ++ done) ++ cbs [kd]) [(.cnt [kd], s_.1), (.int [xa, xb], s_.2.2)] ∧ (w'.cell? ⟨q, 0, none⟩ = some (.int .i64 kd)) ∧ (w'.cell? ⟨q, 1, none⟩ = some (.int .i64 un)) ∧ (w'.cell? ⟨q, 2, none⟩ = some (.int .i64 xa)) ∧ (w'.cell? ⟨q, 3, none⟩ = some (.int .i64 xb))) ?_ ?_
              rotate_left
              · intro hJ3_4_14
                refine join_ (σ := Nat × Nat × Nat) 3 #[true, true, true, true, false, true, true, true, true, false, true, true, true, true, true, false] (fun s_ => [(20, .slice (some ⟨s_.1, 0, none⟩) 1 1), (25, .slice (some ⟨s_.2.1, 0, none⟩) 1 1), (31, .slice (some ⟨s_.2.2, 0, none⟩) 2 2)]) (fun s_ w' => St W0 w' g rb1 (l ++ cbs [(os.length : Int)] ++ done) [(.cnt [kd], s_.1), (.nat [IntKind.u64.wrap un], s_.2.1), (.int [xa, xb], s_.2.2)] ∧ (w'.cell? ⟨q, 0, none⟩ = some (.int .i64 kd)) ∧ (w'.cell? ⟨q, 1, none⟩ = some (.int .i64 un)) ∧ (w'.cell? ⟨q, 2, none⟩ = some (.int .i64 xa)) ∧ (w'.cell? ⟨q, 3, none⟩ = some (.int .i64 xb))) ?_ ?_
                rotate_left
                · intro hJ3_8_14
                  refine join_ (σ := Nat × Nat × Nat) 4 #[true, true, true, true, true, true, true, true, false, false, true, true, true, true, false, false] (fun s_ => [(20, .slice (some ⟨s_.1, 0, none⟩) 1 1), (21, .pointer (some ⟨g, 0, none⟩))]) (fun s_ w' => St W0 w' g rb1 ((l ++ cbs [(os.length : Int)] ++ done) ++ cbs [kd]) [(.cnt [kd], s_.1)] ∧ (w'.cell? ⟨q, 0, none⟩ = some (.int .i64 kd)) ∧ (w'.cell? ⟨q, 1, none⟩ = some (.int .i64 un)) ∧ (w'.cell? ⟨q, 2, none⟩ = some (.int .i64 xa)) ∧ (w'.cell? ⟨q, 3, none⟩ = some (.int .i64 xb))) ?_ ?_
                  rotate_left
                  · intro hJ3_4
                    refine join_ (σ := Nat × Nat × Nat) 4 #[true, true, true, true, false, true, true, true, true, false, true, true, true, true, false, false] (fun s_ => [(20, .slice (some ⟨s_.1, 0, none⟩) 1 1), (25, .slice (some ⟨s_.2.1, 0, none⟩) 1 1)]) (fun s_ w' => St W0 w' g rb1 (l ++ cbs [(os.length : Int)] ++ done) [(.cnt [kd], s_.1), (.nat [IntKind.u64.wrap un], s_.2.1)] ∧ (w'.cell? ⟨q, 0, none⟩ = some (.int .i64 kd)) ∧ (w'.cell? ⟨q, 1, none⟩ = some (.int .i64 un)) ∧ (w'.cell? ⟨q, 2, none⟩ = some (.int .i64 xa)) ∧ (w'.cell? ⟨q, 3, none⟩ = some (.int .i64 xb))) ?_ ?_
                    rotate_left
                    · intro hJ3_8
                      refine join_ (σ := Nat × Nat × Nat) 4 #[true, true, true, true, false, true, true, true, false, false, true, true, true, true, true, false] (fun s_ => [(20, .slice (some ⟨s_.1, 0, none⟩) 1 1), (31, .slice (some ⟨s_.2.2, 0, none⟩) 2 2)]) (fun s_ w' => St W0 w' g rb1 (l ++ cbs [(os.length : Int)] ++ done) [(.cnt [kd], s_.1), (.int [xa, xb], s_.2.2)] ∧ (w'.cell? ⟨q, 0, none⟩ = some (.int .i64 kd)) ∧ (w'.cell? ⟨q, 1, none⟩ = some (.int .i64 un)) ∧ (w'.cell? ⟨q, 2, none⟩ = some (.int .i64 xa)) ∧ (w'.cell? ⟨q, 3, none⟩ = some (.int .i64 xb))) ?_ ?_
                      rotate_left
                      · intro hJ3_14
                        refine join_ (σ := Nat × Nat × Nat) 4 #[true, true, true, false, false, true, true, true, true, false, true, true, true, true, true, false] (fun s_ => [(25, .slice (some ⟨s_.2.1, 0, none⟩) 1 1), (31, .slice (some ⟨s_.2.2, 0, none⟩) 2 2)]) (fun s_ w' => St W0 w' g rb1 (l ++ cbs [(os.length : Int)] ++ done) [(.nat [IntKind.u64.wrap un], s_.2.1), (.int [xa, xb], s_.2.2)] ∧ (w'.cell? ⟨q, 0, none⟩ = some (.int .i64 kd)) ∧ (w'.cell? ⟨q, 1, none⟩ = some (.int .i64 un)) ∧ (w'.cell? ⟨q, 2, none⟩ = some (.int .i64 xa)) ∧ (w'.cell? ⟨q, 3, none⟩ = some (.int .i64 xb))) ?_ ?_
                        rotate_left
                        · intro hJ8_14
                          refine join_ (σ := Nat × Nat × Nat) 5 #[true, true, true, true, false, true, true, true, false, false, true, true, true, true, false, false] (fun s_ => [(20, .slice (some ⟨s_.1, 0, none⟩) 1 1)]) (fun s_ w' => St W0 w' g rb1 (l ++ cbs [(os.length : Int)] ++ done) [(.cnt [kd], s_.1)] ∧ (w'.cell? ⟨q, 0, none⟩ = some (.int .i64 kd)) ∧ (w'.cell? ⟨q, 1, none⟩ = some (.int .i64 un)) ∧ (w'.cell? ⟨q, 2, none⟩ = some (.int .i64 xa)) ∧ (w'.cell? ⟨q, 3, none⟩ = some (.int .i64 xb))) ?_ ?_
                          rotate_left
                          · intro hJ3
                            refine join_ (σ := Nat × Nat × Nat) 5 #[true, true, true, false, false, true, true, true, true, false, true, true, true, true, false, false] (fun s_ => [(25, .slice (some ⟨s_.2.1, 0, none⟩) 1 1)]) (fun s_ w' => St W0 w' g rb1 (l ++ cbs [(os.length : Int)] ++ done) [(.nat [IntKind.u64.wrap un], s_.2.1)] ∧ (w'.cell? ⟨q, 0, none⟩ = some (.int .i64 kd)) ∧ (w'.cell? ⟨q, 1, none⟩ = some (.int .i64 un)) ∧ (w'.cell? ⟨q, 2, none⟩ = some (.int .i64 xa)) ∧ (w'.cell? ⟨q, 3, none⟩ = some (.int .i64 xb))) ?_ ?_
                            rotate_left
                            · intro hJ8
                              refine join_ (σ := Nat × Nat × Nat) 5 #[true, true, true, false, false, true, true, true, false, false, true, true, true, true, true, false] (fun s_ => [(31, .slice (some ⟨s_.2.2, 0, none⟩) 2 2)]) (fun s_ w' => St W0 w' g rb1 (l ++ cbs [(os.length : Int)] ++ done) [(.int [xa, xb], s_.2.2)] ∧ (w'.cell? ⟨q, 0, none⟩ = some (.int .i64 kd)) ∧ (w'.cell? ⟨q, 1, none⟩ = some (.int .i64 un)) ∧ (w'.cell? ⟨q, 2, none⟩ = some (.int .i64 xa)) ∧ (w'.cell? ⟨q, 3, none⟩ = some (.int .i64 xb))) ?_ ?_
                              rotate_left
                              · intro hJ14
                                refine three_ (i := 3) (j := 8) (k := 14) (Ni := some 20) (Nj := some 25) (Nk := some 31) #[true, true, true, true, false, true, true, true, false, false, true, true, true, true, false, false] #[true, true, true, false, false, true, true, true, true, false, true, true, true, true, false, false] #[true, true, true, false, false, true, true, true, false, false, true, true, true, true, true, false] rfl rfl rfl rfl rfl rfl (by kernel_rfl) (by decide) (by decide) (by decide) (fun K hK => ?_) (fun K hK => ?_) (fun K hK => ?_)
                                · skip
                                  refine value_ (w1 := ?_) (v := ?_) (by rfl) rfl ?_ ?_
                                  rotate_left 2
                                  · go_simp
                                    constructor
                                    · rfl
                                    · rfl
                                  have hst2 := hst.build (.cnt [kd]) 3
                                  refine hK.out _ _ ⟨(hst2.cell p0.out QN), (hst2.cell p1.out QN), (hst2.cell p2.out QN), (hst2.cell p3.out QN)⟩ (fun hHeld => ?_)
                                  clear hK K
                                  refine norm_ (a' := ?_) ?_ ?_
                                  rotate_left
                                  · show Act.put _ (some 20) _ = _
                                    simp only [Act.put, List.setIfInBounds_toArray, List.set_cons_zero, List.set_cons_succ, i64_w, i32_w]
                                    rfl
                                  exact norm_ (by first | (simp only [putAll, Act.put, List.setIfInBounds_toArray, List.set_cons_zero, List.set_cons_succ]; done) | (simp only [putAll, Act.put, List.setIfInBounds_toArray, List.set_cons_zero, List.set_cons_succ]; rfl)) (hJ3 ((W0).drew.heap.size, 0, 0) _ ⟨hst2.sub (by simp), (hst2.cell p0.out QN), (hst2.cell p1.out QN), (hst2.cell p2.out QN), (hst2.cell p3.out QN)⟩)
                                · skip
                                  refine value_ (w1 := ?_) (v := ?_) (by rfl) rfl ?_ ?_
                                  rotate_left 2
                                  · go_simp
                                    constructor
                                    · rfl
                                    · rfl
                                  have hst2 := hst.build (.nat [IntKind.u64.wrap un]) 105
                                  refine hK.out _ _ ⟨(hst2.cell p0.out QN), (hst2.cell p1.out QN), (hst2.cell p2.out QN), (hst2.cell p3.out QN)⟩ (fun hHeld => ?_)
                                  clear hK K
                                  refine norm_ (a' := ?_) ?_ ?_
                                  rotate_left
                                  · show Act.put _ (some 25) _ = _
                                    simp only [Act.put, List.setIfInBounds_toArray, List.set_cons_zero, List.set_cons_succ, i64_w, i32_w]
                                    rfl
                                  exact norm_ (by first | (simp only [putAll, Act.put, List.setIfInBounds_toArray, List.set_cons_zero, List.set_cons_succ]; done) | (simp only [putAll, Act.put, List.setIfInBounds_toArray, List.set_cons_zero, List.set_cons_succ]; rfl)) (hJ8 (0, (W0).drew.heap.size, 0) _ ⟨hst2.sub (by simp), (hst2.cell p0.out QN), (hst2.cell p1.out QN), (hst2.cell p2.out QN), (hst2.cell p3.out QN)⟩)
                                · skip
                                  refine value_ (w1 := ?_) (v := ?_) (by rfl) rfl ?_ ?_
                                  rotate_left 2
                                  · go_simp
                                    constructor
                                    · rfl
                                    · rfl
                                  have hst2 := hst.build (.int [xa, xb]) 2
                                  refine hK.out _ _ ⟨(hst2.cell p0.out QN), (hst2.cell p1.out QN), (hst2.cell p2.out QN), (hst2.cell p3.out QN)⟩ (fun hHeld => ?_)
                                  clear hK K
                                  refine norm_ (a' := ?_) ?_ ?_
                                  rotate_left
                                  · show Act.put _ (some 31) _ = _
                                    simp only [Act.put, List.setIfInBounds_toArray, List.set_cons_zero, List.set_cons_succ, i64_w, i32_w]
                                    rfl
                                  exact norm_ (by first | (simp only [putAll, Act.put, List.setIfInBounds_toArray, List.set_cons_zero, List.set_cons_succ]; done) | (simp only [putAll, Act.put, List.setIfInBounds_toArray, List.set_cons_zero, List.set_cons_succ]; rfl)) (hJ14 (0, 0, (W0).drew.heap.size) _ ⟨hst2.sub (by simp), (hst2.cell p0.out QN), (hst2.cell p1.out QN), (hst2.cell p2.out QN), (hst2.cell p3.out QN)⟩)
                              · skip
                                rintro ⟨b0, b1, b2⟩ W_ ⟨hst, q0, q1, q2, q3⟩
                                have hHeld : W_.cell? ⟨q, 0, none⟩ = some (.int .i64 kd) ∧ W_.cell? ⟨q, 1, none⟩ = some (.int .i64 un) ∧ W_.cell? ⟨q, 2, none⟩ = some (.int .i64 xa) ∧ W_.cell? ⟨q, 3, none⟩ = some (.int .i64 xb) := ⟨q0, q1, q2, q3⟩
                                refine norm_ (a' := ?_) ?_ ?_
                                rotate_left
                                · simp only [putAll, Act.put, List.setIfInBounds_toArray, List.set_cons_zero, List.set_cons_succ]
                                  rfl
                                refine two_ (i := 3) (j := 8) (Ni := some 20) (Nj := some 25) #[true, true, true, true, false, true, true, true, false, false, true, true, true, true, true, false] #[true, true, true, false, false, true, true, true, true, false, true, true, true, true, true, false] rfl rfl rfl rfl (by kernel_rfl) (by decide) (by decide) (fun K hK => ?_) (fun K hK => ?_)
                                · skip
                                  refine value_ (w1 := ?_) (v := ?_) (by rfl) rfl ?_ ?_
                                  rotate_left 2
                                  · go_simp
                                    constructor
                                    · rfl
                                    · rfl
                                  have hst2 := hst.build (.cnt [kd]) 3
                                  refine hK.out _ _ ⟨(hst2.cell p0.out QN), (hst2.cell p1.out QN), (hst2.cell p2.out QN), (hst2.cell p3.out QN)⟩ (fun hHeld => ?_)
                                  clear hK K
                                  refine norm_ (a' := ?_) ?_ ?_
                                  rotate_left
                                  · show Act.put _ (some 20) _ = _
                                    simp only [Act.put, List.setIfInBounds_toArray, List.set_cons_zero, List.set_cons_succ, i64_w, i32_w]
                                    rfl
                                  exact norm_ (by first | (simp only [putAll, Act.put, List.setIfInBounds_toArray, List.set_cons_zero, List.set_cons_succ]; done) | (simp only [putAll, Act.put, List.setIfInBounds_toArray, List.set_cons_zero, List.set_cons_succ]; rfl)) (hJ3_14 (W_.heap.size, 0, b2) _ ⟨hst2.sub (by simp), (hst2.cell p0.out QN), (hst2.cell p1.out QN), (hst2.cell p2.out QN), (hst2.cell p3.out QN)⟩)
                                · skip
                                  refine value_ (w1 := ?_) (v := ?_) (by rfl) rfl ?_ ?_
                                  rotate_left 2
                                  · go_simp
                                    constructor
                                    · rfl
                                    · rfl
                                  have hst2 := hst.build (.nat [IntKind.u64.wrap un]) 105
                                  refine hK.out _ _ ⟨(hst2.cell p0.out QN), (hst2.cell p1.out QN), (hst2.cell p2.out QN), (hst2.cell p3.out QN)⟩ (fun hHeld => ?_)
                                  clear hK K
                                  refine norm_ (a' := ?_) ?_ ?_
                                  rotate_left
                                  · show Act.put _ (some 25) _ = _
                                    simp only [Act.put, List.setIfInBounds_toArray, List.set_cons_zero, List.set_cons_succ, i64_w, i32_w]
                                    rfl
                                  exact norm_ (by first | (simp only [putAll, Act.put, List.setIfInBounds_toArray, List.set_cons_zero, List.set_cons_succ]; done) | (simp only [putAll, Act.put, List.setIfInBounds_toArray, List.set_cons_zero, List.set_cons_succ]; rfl)) (hJ8_14 (0, W_.heap.size, b2) _ ⟨hst2.sub (by simp), (hst2.cell p0.out QN), (hst2.cell p1.out QN), (hst2.cell p2.out QN), (hst2.cell p3.out QN)⟩)
                            · skip
                              rintro ⟨b0, b1, b2⟩ W_ ⟨hst, q0, q1, q2, q3⟩
                              have hHeld : W_.cell? ⟨q, 0, none⟩ = some (.int .i64 kd) ∧ W_.cell? ⟨q, 1, none⟩ = some (.int .i64 un) ∧ W_.cell? ⟨q, 2, none⟩ = some (.int .i64 xa) ∧ W_.cell? ⟨q, 3, none⟩ = some (.int .i64 xb) := ⟨q0, q1, q2, q3⟩
                              refine norm_ (a' := ?_) ?_ ?_
                              rotate_left
                              · simp only [putAll, Act.put, List.setIfInBounds_toArray, List.set_cons_zero, List.set_cons_succ]
                                rfl
                              refine two_ (i := 3) (j := 14) (Ni := some 20) (Nj := some 31) #[true, true, true, true, false, true, true, true, true, false, true, true, true, true, false, false] #[true, true, true, false, false, true, true, true, true, false, true, true, true, true, true, false] rfl rfl rfl rfl (by kernel_rfl) (by decide) (by decide) (fun K hK => ?_) (fun K hK => ?_)
                              · skip
                                refine value_ (w1 := ?_) (v := ?_) (by rfl) rfl ?_ ?_
                                rotate_left 2
                                · go_simp
                                  constructor
                                  · rfl
                                  · rfl
                                have hst2 := hst.build (.cnt [kd]) 3
                                refine hK.out _ _ ⟨(hst2.cell p0.out QN), (hst2.cell p1.out QN), (hst2.cell p2.out QN), (hst2.cell p3.out QN)⟩ (fun hHeld => ?_)
                                clear hK K
                                refine norm_ (a' := ?_) ?_ ?_
                                rotate_left
                                · show Act.put _ (some 20) _ = _
                                  simp only [Act.put, List.setIfInBounds_toArray, List.set_cons_zero, List.set_cons_succ, i64_w, i32_w]
                                  rfl
                                exact norm_ (by first | (simp only [putAll, Act.put, List.setIfInBounds_toArray, List.set_cons_zero, List.set_cons_succ]; done) | (simp only [putAll, Act.put, List.setIfInBounds_toArray, List.set_cons_zero, List.set_cons_succ]; rfl)) (hJ3_8 (W_.heap.size, b1, 0) _ ⟨hst2.sub (by simp), (hst2.cell p0.out QN), (hst2.cell p1.out QN), (hst2.cell p2.out QN), (hst2.cell p3.out QN)⟩)
                              · skip
                                refine value_ (w1 := ?_) (v := ?_) (by rfl) rfl ?_ ?_
                                rotate_left 2
                                · go_simp
                                  constructor
                                  · rfl
                                  · rfl
                                have hst2 := hst.build (.int [xa, xb]) 2
                                refine hK.out _ _ ⟨(hst2.cell p0.out QN), (hst2.cell p1.out QN), (hst2.cell p2.out QN), (hst2.cell p3.out QN)⟩ (fun hHeld => ?_)
                                clear hK K
                                refine norm_ (a' := ?_) ?_ ?_
                                rotate_left
                                · show Act.put _ (some 31) _ = _
                                  simp only [Act.put, List.setIfInBounds_toArray, List.set_cons_zero, List.set_cons_succ, i64_w, i32_w]
                                  rfl
                                exact norm_ (by first | (simp only [putAll, Act.put, List.setIfInBounds_toArray, List.set_cons_zero, List.set_cons_succ]; done) | (simp only [putAll, Act.put, List.setIfInBounds_toArray, List.set_cons_zero, List.set_cons_succ]; rfl)) (hJ8_14 (0, b1, W_.heap.size) _ ⟨hst2.sub (by simp), (hst2.cell p0.out QN), (hst2.cell p1.out QN), (hst2.cell p2.out QN), (hst2.cell p3.out QN)⟩)
                          · skip
                            rintro ⟨b0, b1, b2⟩ W_ ⟨hst, q0, q1, q2, q3⟩
                            have hHeld : W_.cell? ⟨q, 0, none⟩ = some (.int .i64 kd) ∧ W_.cell? ⟨q, 1, none⟩ = some (.int .i64 un) ∧ W_.cell? ⟨q, 2, none⟩ = some (.int .i64 xa) ∧ W_.cell? ⟨q, 3, none⟩ = some (.int .i64 xb) := ⟨q0, q1, q2, q3⟩
                            refine norm_ (a' := ?_) ?_ ?_
                            rotate_left
                            · simp only [putAll, Act.put, List.setIfInBounds_toArray, List.set_cons_zero, List.set_cons_succ]
                              rfl
                            refine three_ (i := 4) (j := 8) (k := 14) (Ni := some 21) (Nj := some 25) (Nk := some 31) #[true, true, true, true, true, true, true, true, false, false, true, true, true, true, false, false] #[true, true, true, true, false, true, true, true, true, false, true, true, true, true, false, false] #[true, true, true, true, false, true, true, true, false, false, true, true, true, true, true, false] rfl rfl rfl rfl rfl rfl (by kernel_rfl) (by decide) (by decide) (by decide) (fun K hK => ?_) (fun K hK => ?_) (fun K hK => ?_)
                            · skip
                              refine goes_ Try.func68 (by kernel_rfl) rfl #[.pointer (some ⟨g, 0, none⟩), .slice (some ⟨b0, 0, none⟩) 1 1] (by rfl) rfl rfl (by simp only [List.map_toArray, List.map_cons, List.map_nil]; rfl) ?_
                              with_reducible refine (St.count hst [kd] 1 rfl b0 (by simp) (by simpa using hwk) (by simp only [List.length_append, List.length_singleton]; omega)).mono ?_
                              rintro e w3 ⟨rfl, hst2⟩
                              refine ⟨_, rfl, ?_⟩
                              refine hK.out _ _ ⟨(hst2.cell p0.out QN), (hst2.cell p1.out QN), (hst2.cell p2.out QN), (hst2.cell p3.out QN)⟩ (fun hHeld => ?_)
                              clear hK K
                              refine norm_ (a' := ?_) ?_ ?_
                              rotate_left
                              · show Act.put _ (some 21) _ = _
                                simp only [Act.put, List.setIfInBounds_toArray, List.set_cons_zero, List.set_cons_succ, i64_w, i32_w]
                                rfl
                              exact norm_ (by first | (simp only [putAll, Act.put, List.setIfInBounds_toArray, List.set_cons_zero, List.set_cons_succ]; done) | (simp only [putAll, Act.put, List.setIfInBounds_toArray, List.set_cons_zero, List.set_cons_succ]; rfl)) (hJ3_4 (b0, 0, 0) _ ⟨hst2.sub (by simp), (hst2.cell p0.out QN), (hst2.cell p1.out QN), (hst2.cell p2.out QN), (hst2.cell p3.out QN)⟩)
                            · skip
                              refine value_ (w1 := ?_) (v := ?_) (by rfl) rfl ?_ ?_
                              rotate_left 2
                              · go_simp
                                constructor
                                · rfl
                                · rfl
                              have hst2 := hst.build (.nat [IntKind.u64.wrap un]) 105
                              refine hK.out _ _ ⟨(hst2.cell p0.out QN), (hst2.cell p1.out QN), (hst2.cell p2.out QN), (hst2.cell p3.out QN)⟩ (fun hHeld => ?_)
                              clear hK K
                              refine norm_ (a' := ?_) ?_ ?_
                              rotate_left
                              · show Act.put _ (some 25) _ = _
                                simp only [Act.put, List.setIfInBounds_toArray, List.set_cons_zero, List.set_cons_succ, i64_w, i32_w]
                                rfl
                              exact norm_ (by first | (simp only [putAll, Act.put, List.setIfInBounds_toArray, List.set_cons_zero, List.set_cons_succ]; done) | (simp only [putAll, Act.put, List.setIfInBounds_toArray, List.set_cons_zero, List.set_cons_succ]; rfl)) (hJ3_8 (b0, W_.heap.size, 0) _ ⟨hst2.sub (by simp), (hst2.cell p0.out QN), (hst2.cell p1.out QN), (hst2.cell p2.out QN), (hst2.cell p3.out QN)⟩)
                            · skip
                              refine value_ (w1 := ?_) (v := ?_) (by rfl) rfl ?_ ?_
                              rotate_left 2
                              · go_simp
                                constructor
                                · rfl
                                · rfl
                              have hst2 := hst.build (.int [xa, xb]) 2
                              refine hK.out _ _ ⟨(hst2.cell p0.out QN), (hst2.cell p1.out QN), (hst2.cell p2.out QN), (hst2.cell p3.out QN)⟩ (fun hHeld => ?_)
                              clear hK K
                              refine norm_ (a' := ?_) ?_ ?_
                              rotate_left
                              · show Act.put _ (some 31) _ = _
                                simp only [Act.put, List.setIfInBounds_toArray, List.set_cons_zero, List.set_cons_succ, i64_w, i32_w]
                                rfl
                              exact norm_ (by first | (simp only [putAll, Act.put, List.setIfInBounds_toArray, List.set_cons_zero, List.set_cons_succ]; done) | (simp only [putAll, Act.put, List.setIfInBounds_toArray, List.set_cons_zero, List.set_cons_succ]; rfl)) (hJ3_14 (b0, 0, W_.heap.size) _ ⟨hst2.sub (by simp), (hst2.cell p0.out QN), (hst2.cell p1.out QN), (hst2.cell p2.out QN), (hst2.cell p3.out QN)⟩)
                        · skip
                          rintro ⟨b0, b1, b2⟩ W_ ⟨hst, q0, q1, q2, q3⟩
                          have hHeld : W_.cell? ⟨q, 0, none⟩ = some (.int .i64 kd) ∧ W_.cell? ⟨q, 1, none⟩ = some (.int .i64 un) ∧ W_.cell? ⟨q, 2, none⟩ = some (.int .i64 xa) ∧ W_.cell? ⟨q, 3, none⟩ = some (.int .i64 xb) := ⟨q0, q1, q2, q3⟩
                          refine norm_ (a' := ?_) ?_ ?_
                          rotate_left
                          · simp only [putAll, Act.put, List.setIfInBounds_toArray, List.set_cons_zero, List.set_cons_succ]
                            rfl
                          refine one_ (i := 3) (N := some 20) #[true, true, true, true, false, true, true, true, true, false, true, true, true, true, true, false] rfl rfl (by kernel_rfl) (by decide) (fun K hK => ?_)
                          refine value_ (w1 := ?_) (v := ?_) (by rfl) rfl ?_ ?_
                          rotate_left 2
                          · go_simp
                            constructor
                            · rfl
                            · rfl
                          have hst2 := hst.build (.cnt [kd]) 3
                          refine hK.out _ _ ⟨(hst2.cell p0.out QN), (hst2.cell p1.out QN), (hst2.cell p2.out QN), (hst2.cell p3.out QN)⟩ (fun hHeld => ?_)
                          clear hK K
                          refine norm_ (a' := ?_) ?_ ?_
                          rotate_left
                          · show Act.put _ (some 20) _ = _
                            simp only [Act.put, List.setIfInBounds_toArray, List.set_cons_zero, List.set_cons_succ, i64_w, i32_w]
                            rfl
                          exact norm_ (by first | (simp only [putAll, Act.put, List.setIfInBounds_toArray, List.set_cons_zero, List.set_cons_succ]; done) | (simp only [putAll, Act.put, List.setIfInBounds_toArray, List.set_cons_zero, List.set_cons_succ]; rfl)) (hJ3_8_14 (W_.heap.size, b1, b2) _ ⟨hst2.sub (by simp), (hst2.cell p0.out QN), (hst2.cell p1.out QN), (hst2.cell p2.out QN), (hst2.cell p3.out QN)⟩)
                      · skip
                        rintro ⟨b0, b1, b2⟩ W_ ⟨hst, q0, q1, q2, q3⟩
                        have hHeld : W_.cell? ⟨q, 0, none⟩ = some (.int .i64 kd) ∧ W_.cell? ⟨q, 1, none⟩ = some (.int .i64 un) ∧ W_.cell? ⟨q, 2, none⟩ = some (.int .i64 xa) ∧ W_.cell? ⟨q, 3, none⟩ = some (.int .i64 xb) := ⟨q0, q1, q2, q3⟩
                        refine norm_ (a' := ?_) ?_ ?_
                        rotate_left
                        · simp only [putAll, Act.put, List.setIfInBounds_toArray, List.set_cons_zero, List.set_cons_succ]
                          rfl
                        refine two_ (i := 4) (j := 8) (Ni := some 21) (Nj := some 25) #[true, true, true, true, true, true, true, true, false, false, true, true, true, true, true, false] #[true, true, true, true, false, true, true, true, true, false, true, true, true, true, true, false] rfl rfl rfl rfl (by kernel_rfl) (by decide) (by decide) (fun K hK => ?_) (fun K hK => ?_)
                        · skip
                          refine goes_ Try.func68 (by kernel_rfl) rfl #[.pointer (some ⟨g, 0, none⟩), .slice (some ⟨b0, 0, none⟩) 1 1] (by rfl) rfl rfl (by simp only [List.map_toArray, List.map_cons, List.map_nil]; rfl) ?_
                          with_reducible refine (St.count hst [kd] 1 rfl b0 (by simp) (by simpa using hwk) (by simp only [List.length_append, List.length_singleton]; omega)).mono ?_
                          rintro e w3 ⟨rfl, hst2⟩
                          refine ⟨_, rfl, ?_⟩
                          refine hK.out _ _ ⟨(hst2.cell p0.out QN), (hst2.cell p1.out QN), (hst2.cell p2.out QN), (hst2.cell p3.out QN)⟩ (fun hHeld => ?_)
                          clear hK K
                          refine norm_ (a' := ?_) ?_ ?_
                          rotate_left
                          · show Act.put _ (some 21) _ = _
                            simp only [Act.put, List.setIfInBounds_toArray, List.set_cons_zero, List.set_cons_succ, i64_w, i32_w]
                            rfl
                          exact norm_ (by first | (simp only [putAll, Act.put, List.setIfInBounds_toArray, List.set_cons_zero, List.set_cons_succ]; done) | (simp only [putAll, Act.put, List.setIfInBounds_toArray, List.set_cons_zero, List.set_cons_succ]; rfl)) (hJ3_4_14 (b0, 0, b2) _ ⟨hst2.sub (by simp), (hst2.cell p0.out QN), (hst2.cell p1.out QN), (hst2.cell p2.out QN), (hst2.cell p3.out QN)⟩)
                        · skip
                          refine value_ (w1 := ?_) (v := ?_) (by rfl) rfl ?_ ?_
                          rotate_left 2
                          · go_simp
                            constructor
                            · rfl
                            · rfl
                          have hst2 := hst.build (.nat [IntKind.u64.wrap un]) 105
                          refine hK.out _ _ ⟨(hst2.cell p0.out QN), (hst2.cell p1.out QN), (hst2.cell p2.out QN), (hst2.cell p3.out QN)⟩ (fun hHeld => ?_)
                          clear hK K
                          refine norm_ (a' := ?_) ?_ ?_
                          rotate_left
                          · show Act.put _ (some 25) _ = _
                            simp only [Act.put, List.setIfInBounds_toArray, List.set_cons_zero, List.set_cons_succ, i64_w, i32_w]
                            rfl
                          exact norm_ (by first | (simp only [putAll, Act.put, List.setIfInBounds_toArray, List.set_cons_zero, List.set_cons_succ]; done) | (simp only [putAll, Act.put, List.setIfInBounds_toArray, List.set_cons_zero, List.set_cons_succ]; rfl)) (hJ3_8_14 (b0, W_.heap.size, b2) _ ⟨hst2.sub (by simp), (hst2.cell p0.out QN), (hst2.cell p1.out QN), (hst2.cell p2.out QN), (hst2.cell p3.out QN)⟩)
                    · skip
                      rintro ⟨b0, b1, b2⟩ W_ ⟨hst, q0, q1, q2, q3⟩
                      have hHeld : W_.cell? ⟨q, 0, none⟩ = some (.int .i64 kd) ∧ W_.cell? ⟨q, 1, none⟩ = some (.int .i64 un) ∧ W_.cell? ⟨q, 2, none⟩ = some (.int .i64 xa) ∧ W_.cell? ⟨q, 3, none⟩ = some (.int .i64 xb) := ⟨q0, q1, q2, q3⟩
                      refine norm_ (a' := ?_) ?_ ?_
                      rotate_left
                      · simp only [putAll, Act.put, List.setIfInBounds_toArray, List.set_cons_zero, List.set_cons_succ]
                        rfl
                      refine two_ (i := 4) (j := 14) (Ni := some 21) (Nj := some 31) #[true, true, true, true, true, true, true, true, true, false, true, true, true, true, false, false] #[true, true, true, true, false, true, true, true, true, false, true, true, true, true, true, false] rfl rfl rfl rfl (by kernel_rfl) (by decide) (by decide) (fun K hK => ?_) (fun K hK => ?_)
                      · skip
                        refine goes_ Try.func68 (by kernel_rfl) rfl #[.pointer (some ⟨g, 0, none⟩), .slice (some ⟨b0, 0, none⟩) 1 1] (by rfl) rfl rfl (by simp only [List.map_toArray, List.map_cons, List.map_nil]; rfl) ?_
                        with_reducible refine (St.count hst [kd] 1 rfl b0 (by simp) (by simpa using hwk) (by simp only [List.length_append, List.length_singleton]; omega)).mono ?_
                        rintro e w3 ⟨rfl, hst2⟩
                        refine ⟨_, rfl, ?_⟩
                        refine hK.out _ _ ⟨(hst2.cell p0.out QN), (hst2.cell p1.out QN), (hst2.cell p2.out QN), (hst2.cell p3.out QN)⟩ (fun hHeld => ?_)
                        clear hK K
                        refine norm_ (a' := ?_) ?_ ?_
                        rotate_left
                        · show Act.put _ (some 21) _ = _
                          simp only [Act.put, List.setIfInBounds_toArray, List.set_cons_zero, List.set_cons_succ, i64_w, i32_w]
                          rfl
                        exact norm_ (by first | (simp only [putAll, Act.put, List.setIfInBounds_toArray, List.set_cons_zero, List.set_cons_succ]; done) | (simp only [putAll, Act.put, List.setIfInBounds_toArray, List.set_cons_zero, List.set_cons_succ]; rfl)) (hJ3_4_8 (b0, b1, 0) _ ⟨hst2.sub (by simp), (hst2.cell p0.out QN), (hst2.cell p1.out QN), (hst2.cell p2.out QN), (hst2.cell p3.out QN)⟩)
                      · skip
                        refine value_ (w1 := ?_) (v := ?_) (by rfl) rfl ?_ ?_
                        rotate_left 2
                        · go_simp
                          constructor
                          · rfl
                          · rfl
                        have hst2 := hst.build (.int [xa, xb]) 2
                        refine hK.out _ _ ⟨(hst2.cell p0.out QN), (hst2.cell p1.out QN), (hst2.cell p2.out QN), (hst2.cell p3.out QN)⟩ (fun hHeld => ?_)
                        clear hK K
                        refine norm_ (a' := ?_) ?_ ?_
                        rotate_left
                        · show Act.put _ (some 31) _ = _
                          simp only [Act.put, List.setIfInBounds_toArray, List.set_cons_zero, List.set_cons_succ, i64_w, i32_w]
                          rfl
                        exact norm_ (by first | (simp only [putAll, Act.put, List.setIfInBounds_toArray, List.set_cons_zero, List.set_cons_succ]; done) | (simp only [putAll, Act.put, List.setIfInBounds_toArray, List.set_cons_zero, List.set_cons_succ]; rfl)) (hJ3_8_14 (b0, b1, W_.heap.size) _ ⟨hst2.sub (by simp), (hst2.cell p0.out QN), (hst2.cell p1.out QN), (hst2.cell p2.out QN), (hst2.cell p3.out QN)⟩)
                  · skip
                    rintro ⟨b0, b1, b2⟩ W_ ⟨hst, q0, q1, q2, q3⟩
                    have hHeld : W_.cell? ⟨q, 0, none⟩ = some (.int .i64 kd) ∧ W_.cell? ⟨q, 1, none⟩ = some (.int .i64 un) ∧ W_.cell? ⟨q, 2, none⟩ = some (.int .i64 xa) ∧ W_.cell? ⟨q, 3, none⟩ = some (.int .i64 xb) := ⟨q0, q1, q2, q3⟩
                    refine norm_ (a' := ?_) ?_ ?_
                    rotate_left
                    · simp only [putAll, Act.put, List.setIfInBounds_toArray, List.set_cons_zero, List.set_cons_succ]
                      rfl
                    refine two_ (i := 8) (j := 14) (Ni := some 25) (Nj := some 31) #[true, true, true, true, true, true, true, true, true, false, true, true, true, true, false, false] #[true, true, true, true, true, true, true, true, false, false, true, true, true, true, true, false] rfl rfl rfl rfl (by kernel_rfl) (by decide) (by decide) (fun K hK => ?_) (fun K hK => ?_)
                    · skip
                      refine value_ (w1 := ?_) (v := ?_) (by rfl) rfl ?_ ?_
                      rotate_left 2
                      · go_simp
                        constructor
                        · rfl
                        · rfl
                      have hst2 := hst.build (.nat [IntKind.u64.wrap un]) 105
                      refine hK.out _ _ ⟨(hst2.cell p0.out QN), (hst2.cell p1.out QN), (hst2.cell p2.out QN), (hst2.cell p3.out QN)⟩ (fun hHeld => ?_)
                      clear hK K
                      refine norm_ (a' := ?_) ?_ ?_
                      rotate_left
                      · show Act.put _ (some 25) _ = _
                        simp only [Act.put, List.setIfInBounds_toArray, List.set_cons_zero, List.set_cons_succ, i64_w, i32_w]
                        rfl
                      exact norm_ (by first | (simp only [putAll, Act.put, List.setIfInBounds_toArray, List.set_cons_zero, List.set_cons_succ]; done) | (simp only [putAll, Act.put, List.setIfInBounds_toArray, List.set_cons_zero, List.set_cons_succ]; rfl)) (hJ3_4_8 (b0, W_.heap.size, 0) _ ⟨hst2.sub (by simp), (hst2.cell p0.out QN), (hst2.cell p1.out QN), (hst2.cell p2.out QN), (hst2.cell p3.out QN)⟩)
                    · skip
                      refine value_ (w1 := ?_) (v := ?_) (by rfl) rfl ?_ ?_
                      rotate_left 2
                      · go_simp
                        constructor
                        · rfl
                        · rfl
                      have hst2 := hst.build (.int [xa, xb]) 2
                      refine hK.out _ _ ⟨(hst2.cell p0.out QN), (hst2.cell p1.out QN), (hst2.cell p2.out QN), (hst2.cell p3.out QN)⟩ (fun hHeld => ?_)
                      clear hK K
                      refine norm_ (a' := ?_) ?_ ?_
                      rotate_left
                      · show Act.put _ (some 31) _ = _
                        simp only [Act.put, List.setIfInBounds_toArray, List.set_cons_zero, List.set_cons_succ, i64_w, i32_w]
                        rfl
                      exact norm_ (by first | (simp only [putAll, Act.put, List.setIfInBounds_toArray, List.set_cons_zero, List.set_cons_succ]; done) | (simp only [putAll, Act.put, List.setIfInBounds_toArray, List.set_cons_zero, List.set_cons_succ]; rfl)) (hJ3_4_14 (b0, 0, W_.heap.size) _ ⟨hst2.sub (by simp), (hst2.cell p0.out QN), (hst2.cell p1.out QN), (hst2.cell p2.out QN), (hst2.cell p3.out QN)⟩)
                · skip
                  rintro ⟨b0, b1, b2⟩ W_ ⟨hst, q0, q1, q2, q3⟩
                  have hHeld : W_.cell? ⟨q, 0, none⟩ = some (.int .i64 kd) ∧ W_.cell? ⟨q, 1, none⟩ = some (.int .i64 un) ∧ W_.cell? ⟨q, 2, none⟩ = some (.int .i64 xa) ∧ W_.cell? ⟨q, 3, none⟩ = some (.int .i64 xb) := ⟨q0, q1, q2, q3⟩
                  refine norm_ (a' := ?_) ?_ ?_
                  rotate_left
                  · simp only [putAll, Act.put, List.setIfInBounds_toArray, List.set_cons_zero, List.set_cons_succ]
                    rfl
                  refine one_ (i := 4) (N := some 21) #[true, true, true, true, true, true, true, true, true, false, true, true, true, true, true, false] rfl rfl (by kernel_rfl) (by decide) (fun K hK => ?_)
                  refine goes_ Try.func68 (by kernel_rfl) rfl #[.pointer (some ⟨g, 0, none⟩), .slice (some ⟨b0, 0, none⟩) 1 1] (by rfl) rfl rfl (by simp only [List.map_toArray, List.map_cons, List.map_nil]; rfl) ?_
                  with_reducible refine (St.count hst [kd] 1 rfl b0 (by simp) (by simpa using hwk) (by simp only [List.length_append, List.length_singleton]; omega)).mono ?_
                  rintro e w3 ⟨rfl, hst2⟩
                  refine ⟨_, rfl, ?_⟩
                  refine hK.out _ _ ⟨(hst2.cell p0.out QN), (hst2.cell p1.out QN), (hst2.cell p2.out QN), (hst2.cell p3.out QN)⟩ (fun hHeld => ?_)
                  clear hK K
                  refine norm_ (a' := ?_) ?_ ?_
                  rotate_left
                  · show Act.put _ (some 21) _ = _
                    simp only [Act.put, List.setIfInBounds_toArray, List.set_cons_zero, List.set_cons_succ, i64_w, i32_w]
                    rfl
                  exact norm_ (by first | (simp only [putAll, Act.put, List.setIfInBounds_toArray, List.set_cons_zero, List.set_cons_succ]; done) | (simp only [putAll, Act.put, List.setIfInBounds_toArray, List.set_cons_zero, List.set_cons_succ]; rfl)) (hJ3_4_8_14 (b0, b1, b2) _ ⟨hst2.sub (by simp), (hst2.cell p0.out QN), (hst2.cell p1.out QN), (hst2.cell p2.out QN), (hst2.cell p3.out QN)⟩)
              · skip
                rintro ⟨b0, b1, b2⟩ W_ ⟨hst, q0, q1, q2, q3⟩
                have hHeld : W_.cell? ⟨q, 0, none⟩ = some (.int .i64 kd) ∧ W_.cell? ⟨q, 1, none⟩ = some (.int .i64 un) ∧ W_.cell? ⟨q, 2, none⟩ = some (.int .i64 xa) ∧ W_.cell? ⟨q, 3, none⟩ = some (.int .i64 xb) := ⟨q0, q1, q2, q3⟩
                refine norm_ (a' := ?_) ?_ ?_
                rotate_left
                · simp only [putAll, Act.put, List.setIfInBounds_toArray, List.set_cons_zero, List.set_cons_succ]
                  rfl
                refine one_ (i := 8) (N := some 25) #[true, true, true, true, true, true, true, true, true, false, true, true, true, true, true, false] rfl rfl (by kernel_rfl) (by decide) (fun K hK => ?_)
                refine value_ (w1 := ?_) (v := ?_) (by rfl) rfl ?_ ?_
                rotate_left 2
                · go_simp
                  constructor
                  · rfl
                  · rfl
                have hst2 := hst.build (.nat [IntKind.u64.wrap un]) 105
                refine hK.out _ _ ⟨(hst2.cell p0.out QN), (hst2.cell p1.out QN), (hst2.cell p2.out QN), (hst2.cell p3.out QN)⟩ (fun hHeld => ?_)
                clear hK K
                refine norm_ (a' := ?_) ?_ ?_
                rotate_left
                · show Act.put _ (some 25) _ = _
                  simp only [Act.put, List.setIfInBounds_toArray, List.set_cons_zero, List.set_cons_succ, i64_w, i32_w]
                  rfl
                exact norm_ (by first | (simp only [putAll, Act.put, List.setIfInBounds_toArray, List.set_cons_zero, List.set_cons_succ]; done) | (simp only [putAll, Act.put, List.setIfInBounds_toArray, List.set_cons_zero, List.set_cons_succ]; rfl)) (hJ3_4_8_14 (b0, W_.heap.size, b2) _ ⟨hst2.sub (by simp), (hst2.cell p0.out QN), (hst2.cell p1.out QN), (hst2.cell p2.out QN), (hst2.cell p3.out QN)⟩)
            · skip
              rintro ⟨b0, b1, b2⟩ W_ ⟨hst, q0, q1, q2, q3⟩
              have hHeld : W_.cell? ⟨q, 0, none⟩ = some (.int .i64 kd) ∧ W_.cell? ⟨q, 1, none⟩ = some (.int .i64 un) ∧ W_.cell? ⟨q, 2, none⟩ = some (.int .i64 xa) ∧ W_.cell? ⟨q, 3, none⟩ = some (.int .i64 xb) := ⟨q0, q1, q2, q3⟩
              refine norm_ (a' := ?_) ?_ ?_
              rotate_left
              · simp only [putAll, Act.put, List.setIfInBounds_toArray, List.set_cons_zero, List.set_cons_succ]
                rfl
              refine two_ (i := 9) (j := 14) (Ni := some 26) (Nj := some 31) #[true, true, true, true, true, true, true, true, true, true, true, true, true, true, false, false] #[true, true, true, true, true, true, true, true, true, false, true, true, true, true, true, false] rfl rfl rfl rfl (by kernel_rfl) (by decide) (by decide) (fun K hK => ?_) (fun K hK => ?_)
              · skip
                refine goes_ Try.func67 (by kernel_rfl) rfl #[.pointer (some ⟨g, 0, none⟩), .slice (some ⟨b1, 0, none⟩) 1 1] (by rfl) rfl rfl (by simp only [List.map_toArray, List.map_cons, List.map_nil]; rfl) ?_
                with_reducible refine (St.num hst [IntKind.u64.wrap un] 1 rfl b1 (by simp) (by simpa using wrap_u64_in un) (by simp only [List.length_append, List.length_singleton]; omega)).mono ?_
                rintro e w3 ⟨rfl, hst2⟩
                refine ⟨_, rfl, ?_⟩
                refine hK.out _ _ ⟨(hst2.cell p0.out QN), (hst2.cell p1.out QN), (hst2.cell p2.out QN), (hst2.cell p3.out QN)⟩ (fun hHeld => ?_)
                clear hK K
                refine norm_ (a' := ?_) ?_ ?_
                rotate_left
                · show Act.put _ (some 26) _ = _
                  simp only [Act.put, List.setIfInBounds_toArray, List.set_cons_zero, List.set_cons_succ, i64_w, i32_w]
                  rfl
                exact norm_ (by first | (simp only [putAll, Act.put, List.setIfInBounds_toArray, List.set_cons_zero, List.set_cons_succ]; done) | (simp only [putAll, Act.put, List.setIfInBounds_toArray, List.set_cons_zero, List.set_cons_succ]; rfl)) (hJ3_4_8_9 (b0, b1, 0) _ ⟨hst2.sub (by simp), (hst2.cell p0.out QN), (hst2.cell p1.out QN), (hst2.cell p2.out QN), (hst2.cell p3.out QN)⟩)
              · skip
                refine value_ (w1 := ?_) (v := ?_) (by rfl) rfl ?_ ?_
                rotate_left 2
                · go_simp
                  constructor
                  · rfl
                  · rfl
                have hst2 := hst.build (.int [xa, xb]) 2
                refine hK.out _ _ ⟨(hst2.cell p0.out QN), (hst2.cell p1.out QN), (hst2.cell p2.out QN), (hst2.cell p3.out QN)⟩ (fun hHeld => ?_)
                clear hK K
                refine norm_ (a' := ?_) ?_ ?_
                rotate_left
                · show Act.put _ (some 31) _ = _
                  simp only [Act.put, List.setIfInBounds_toArray, List.set_cons_zero, List.set_cons_succ, i64_w, i32_w]
                  rfl
                exact norm_ (by first | (simp only [putAll, Act.put, List.setIfInBounds_toArray, List.set_cons_zero, List.set_cons_succ]; done) | (simp only [putAll, Act.put, List.setIfInBounds_toArray, List.set_cons_zero, List.set_cons_succ]; rfl)) (hJ3_4_8_14 (b0, b1, W_.heap.size) _ ⟨hst2.sub (by simp), (hst2.cell p0.out QN), (hst2.cell p1.out QN), (hst2.cell p2.out QN), (hst2.cell p3.out QN)⟩)
          · skip
            rintro ⟨b0, b1, b2⟩ W_ ⟨hst, q0, q1, q2, q3⟩
            have hHeld : W_.cell? ⟨q, 0, none⟩ = some (.int .i64 kd) ∧ W_.cell? ⟨q, 1, none⟩ = some (.int .i64 un) ∧ W_.cell? ⟨q, 2, none⟩ = some (.int .i64 xa) ∧ W_.cell? ⟨q, 3, none⟩ = some (.int .i64 xb) := ⟨q0, q1, q2, q3⟩
            refine norm_ (a' := ?_) ?_ ?_
            rotate_left
            · simp only [putAll, Act.put, List.setIfInBounds_toArray, List.set_cons_zero, List.set_cons_succ]
              rfl
            refine one_ (i := 9) (N := some 26) #[true, true, true, true, true, true, true, true, true, true, true, true, true, true, true, false] rfl rfl (by kernel_rfl) (by decide) (fun K hK => ?_)
            refine goes_ Try.func67 (by kernel_rfl) rfl #[.pointer (some ⟨g, 0, none⟩), .slice (some ⟨b1, 0, none⟩) 1 1] (by rfl) rfl rfl (by simp only [List.map_toArray, List.map_cons, List.map_nil]; rfl) ?_
            with_reducible refine (St.num hst [IntKind.u64.wrap un] 1 rfl b1 (by simp) (by simpa using wrap_u64_in un) (by simp only [List.length_append, List.length_singleton]; omega)).mono ?_
            rintro e w3 ⟨rfl, hst2⟩
            refine ⟨_, rfl, ?_⟩
            refine hK.out _ _ ⟨(hst2.cell p0.out QN), (hst2.cell p1.out QN), (hst2.cell p2.out QN), (hst2.cell p3.out QN)⟩ (fun hHeld => ?_)
            clear hK K
            refine norm_ (a' := ?_) ?_ ?_
            rotate_left
            · show Act.put _ (some 26) _ = _
              simp only [Act.put, List.setIfInBounds_toArray, List.set_cons_zero, List.set_cons_succ, i64_w, i32_w]
              rfl
            exact norm_ (by first | (simp only [putAll, Act.put, List.setIfInBounds_toArray, List.set_cons_zero, List.set_cons_succ]; done) | (simp only [putAll, Act.put, List.setIfInBounds_toArray, List.set_cons_zero, List.set_cons_succ]; rfl)) (hJ3_4_8_9_14 (b0, b1, b2) _ ⟨hst2.sub (by simp), (hst2.cell p0.out QN), (hst2.cell p1.out QN), (hst2.cell p2.out QN), (hst2.cell p3.out QN)⟩)
        · skip
          rintro ⟨b0, b1, b2⟩ W_ ⟨hst, q0, q1, q2, q3⟩
          have hHeld : W_.cell? ⟨q, 0, none⟩ = some (.int .i64 kd) ∧ W_.cell? ⟨q, 1, none⟩ = some (.int .i64 un) ∧ W_.cell? ⟨q, 2, none⟩ = some (.int .i64 xa) ∧ W_.cell? ⟨q, 3, none⟩ = some (.int .i64 xb) := ⟨q0, q1, q2, q3⟩
          refine norm_ (a' := ?_) ?_ ?_
          rotate_left
          · simp only [putAll, Act.put, List.setIfInBounds_toArray, List.set_cons_zero, List.set_cons_succ]
            rfl
          refine one_ (i := 14) (N := some 31) #[true, true, true, true, true, true, true, true, true, true, true, true, true, true, true, false] rfl rfl (by kernel_rfl) (by decide) (fun K hK => ?_)
          refine value_ (w1 := ?_) (v := ?_) (by rfl) rfl ?_ ?_
          rotate_left 2
          · go_simp
            constructor
            · rfl
            · rfl
          have hst2 := hst.build (.int [xa, xb]) 2
          refine hK.out _ _ ⟨(hst2.cell p0.out QN), (hst2.cell p1.out QN), (hst2.cell p2.out QN), (hst2.cell p3.out QN)⟩ (fun hHeld => ?_)
          clear hK K
          refine norm_ (a' := ?_) ?_ ?_
          rotate_left
          · show Act.put _ (some 31) _ = _
            simp only [Act.put, List.setIfInBounds_toArray, List.set_cons_zero, List.set_cons_succ, i64_w, i32_w]
            rfl
          exact norm_ (by first | (simp only [putAll, Act.put, List.setIfInBounds_toArray, List.set_cons_zero, List.set_cons_succ]; done) | (simp only [putAll, Act.put, List.setIfInBounds_toArray, List.set_cons_zero, List.set_cons_succ]; rfl)) (hJ3_4_8_9_14 (b0, b1, W_.heap.size) _ ⟨hst2.sub (by simp), (hst2.cell p0.out QN), (hst2.cell p1.out QN), (hst2.cell p2.out QN), (hst2.cell p3.out QN)⟩)
      rintro ⟨b0, b1, b2⟩ W_ ⟨hst, q0, q1, q2, q3⟩
      have hHeld : W_.cell? ⟨q, 0, none⟩ = some (.int .i64 kd) ∧ W_.cell? ⟨q, 1, none⟩ = some (.int .i64 un) ∧ W_.cell? ⟨q, 2, none⟩ = some (.int .i64 xa) ∧ W_.cell? ⟨q, 3, none⟩ = some (.int .i64 xb) := ⟨q0, q1, q2, q3⟩
      refine norm_ (a' := ?_) ?_ ?_
      rotate_left
      · simp only [putAll, Act.put, List.setIfInBounds_toArray, List.set_cons_zero, List.set_cons_succ]
        rfl
      refine one_ (i := 15) (N := some 32) #[true, true, true, true, true, true, true, true, true, true, true, true, true, true, true, true] rfl rfl (by kernel_rfl) (by decide) (fun K hK => ?_)
      refine goes_ Try.func69 (by kernel_rfl) rfl #[.pointer (some ⟨g, 0, none⟩), .slice (some ⟨b2, 0, none⟩) 2 2] (by rfl) rfl rfl (by simp only [List.map_toArray, List.map_cons, List.map_nil]; rfl) ?_
      with_reducible refine (St.int hst [xa, xb] 2 rfl b2 (by simp) (by simpa using ⟨hwa, hwb⟩) (by simp only [List.length_append, List.length_cons, List.length_nil]; omega)).mono ?_
      rintro e w3 ⟨rfl, hst2⟩
      refine ⟨_, rfl, ?_⟩
      replace hst := hst2
      refine hK.out _ _ ⟨(hst.cell p0.out QN), (hst.cell p1.out QN), (hst.cell p2.out QN), (hst.cell p3.out QN)⟩ (fun hHeld => ?_)
      clear hK K
      refine norm_ (a' := ?_) ?_ ?_
      rotate_left
      · show Act.put _ (some 32) _ = _
        simp only [Act.put, List.setIfInBounds_toArray, List.set_cons_zero, List.set_cons_succ, i64_w, i32_w]
        rfl
      refine done_ (by kernel_rfl) ?_
      have HST := hid (OutTo.then HRB.out QK.out hst.to); clear hst hHeld
      go_wp2
      go_roundw
      case rel => exact ⟨i + 1, by omega, by go_num, by rw [HTK.out]; have := HST.out; simpa only [ob, List.append_assoc] using this⟩
      case measure => simp [intOf]; omega
    · go_wp2
      go_end0
      have hi' : i = os.length := by omega
      exact ⟨by rfl, by have := HOT.out; rwa [hi', List.take_length] at this⟩
end Go.Proofs.Ytfhckddfmlljfaa
