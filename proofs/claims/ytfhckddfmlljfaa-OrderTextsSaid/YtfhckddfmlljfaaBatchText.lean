/- Batch.Text (order). -/
import Derived.Test.YtfhckddfmlljfaaBatchPut
namespace Go.Proofs.Ytfhckddfmlljfaa
open Go.RowKit
set_option linter.unusedVariables false
theorem Ords.kp {w w' : World} {A : Option Addr} {os : List Ord} {S : Nat → Prop} (h : Ords w A os) (k : Kp S w w') (hd : ∀ a, A = some a → ¬ S a.block) : Ords w' A os := by
  rcases h with h | ⟨ad, rfl, h⟩
  · exact .inl h
  · exact .inr ⟨ad, rfl, fun j x hj => (h j x hj).kp k (by rw [add_blk]; exact hd _ rfl)⟩
theorem Ords.lt {w : World} {A : Option Addr} {os : List Ord} (h : Ords w A os) : os = [] ∨ ∀ a, A = some a → a.block < w.heap.size := by
  rcases h with h | ⟨ad, rfl, h⟩
  · exact .inl h
  · cases os with
    | nil => exact .inl rfl
    | cons o os => exact .inr fun a e => by cases e; have := World.block_lt_of_cell? _ _ (h 0 o rfl).1; rwa [add_blk] at this
def batchBytes (os : List Ord) : ByteArray := ⟨(cbs [(os.length : Int)] ++ obs os).toArray⟩
theorem batch_text (A : Option Addr) (c : Nat) (os : List Ord) (w : World) (hr : Ords w A os) (hA : ∀ a, A = some a → a.block < w.heap.size) (hc : os.length ≤ c) (hwf : ∀ o ∈ os, o.wf) (hb : 40 * os.length ≤ 549755812000) :
    Calls Try.prog 23 #[.slice A os.length c] w fun x w' => x = .returned (.string (batchBytes os)) ∧ Below w.heap.size w w' := by
  have HR := hid hr; have HA := hid hA; have HW := hid hwf
  clear hr hA hwf
  go_enter Try.func23, Try.ntmps23
  go_wp2_with (first | (go_at_call 50; refine (batch_put w.heap.size none [] A c os _ (OutAt.new w) (HR.out.kp ((Kp.refl (fun _ => False) w).alloc _) (fun _ _ x => x)) (fun a e => ⟨Nat.ne_of_lt (HA.out a e), by simp⟩) hc HW.out (by simp; omega)).mono ?_; rintro x w1 ⟨rfl, hot1⟩; obtain ⟨rb1, ha1, hb1, hk1⟩ := hot1; have HK := hid (((Kp.refl (fun k => k = w.heap.size) w).alloc _).then hk1 (fun _ _ h => h) (fun _ _ h => h.elim id (fun h => by cases h))); have HA1 := hid ha1; clear ha1 hb1 hk1) | (go_at_call 51; refine (text_out _ _ _ _ HA1.out).mono ?_; rintro x w2 ⟨rfl, rfl⟩))
  go_ret
  exact ⟨by simp [batchBytes], Kp.below HK.out (Nat.le_refl _) (fun k hk e => by omega)⟩
theorem batch_put_nil (g : Nat) (rb : Option Nat) (l : List UInt8) (A : Option Addr) (c : Nat) (w : World) (h : OutAt w g rb l) (hb : l.length ≤ 549755812000) :
    Calls Try.prog 50 #[.slice A 0 c, .pointer (some ⟨g, 0, none⟩)] w fun x w' => x = .returned (.tuple #[]) ∧ OutTo w w' g rb (l ++ cbs [(0 : Int)]) := by
  have HH := hid h
  clear h
  go_enter Try.func50, Try.ntmps50
  go_wp2_with (go_at_call 68; refine (count_out g rb l _ 1 [(0 : Int)] _ (HH.out.alloc _) (Ints.lit w .i64 [(0 : Int)] _) HH.out.apart (by simp) (by simp) (by simp; omega)).mono ?_; rintro x w1 ⟨rfl, hot1⟩; have HO1 := hid hot1.alloc; clear hot1)
  go_loopw [5, 13] (fun _ v13 wr => v13 = .int .i64 0 ∧ OutTo w wr g rb (l ++ cbs [(0 : Int)])) (fun _ v13 _ => 0)
  case atStart => exact ⟨rfl, HO1.out⟩
  case round =>
    obtain ⟨rfl, hot⟩ := hrel
    have HOT := hid hot; clear hot
    go_wp2
    go_end0
    exact ⟨by rfl, HOT.out⟩
theorem batch_text_nil (A : Option Addr) (c : Nat) (w : World) :
    Calls Try.prog 23 #[.slice A 0 c] w fun x w' => x = .returned (.string (batchBytes [])) ∧ Below w.heap.size w w' := by
  go_enter Try.func23, Try.ntmps23
  go_wp2_with (first | (go_at_call 50; refine (batch_put_nil w.heap.size none [] A c _ (OutAt.new w) (by simp)).mono ?_; rintro x w1 ⟨rfl, hot1⟩; obtain ⟨rb1, ha1, hb1, hk1⟩ := hot1; have HK := hid (((Kp.refl (fun k => k = w.heap.size) w).alloc _).then hk1 (fun _ _ h => h) (fun _ _ h => h.elim id (fun h => by cases h))); have HA1 := hid ha1; clear ha1 hb1 hk1) | (go_at_call 51; refine (text_out _ _ _ _ HA1.out).mono ?_; rintro x w2 ⟨rfl, rfl⟩))
  go_ret
  exact ⟨by simp [batchBytes, obs], Kp.below HK.out (Nat.le_refl _) (fun k hk e => by omega)⟩
end Go.Proofs.Ytfhckddfmlljfaa
