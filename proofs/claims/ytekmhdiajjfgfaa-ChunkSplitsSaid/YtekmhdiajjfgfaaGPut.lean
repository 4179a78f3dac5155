/- A Gather (chunk.Gather): New, and Put of a first piece that may be. -/
import Derived.Test.YtekmhdiajjfgfaaQChunkSplitsx5
import Derived.Test.YtekmhdiajjfgfaaKp
import Derived.Handy
import Derived.Maps.OwnSet
import Derived.Maps.StringElems
import Derived.Outline
namespace Go.Proofs.Ytekmhdiajjfgfaa.QChunkSplits
open Go.Proofs.Ytekmhdiajjfgfaa Go.RowKit Go.Maps Go.Proofs.YtekmhdiajjfgfaaW.PrintWords Go.Proofs.YtekmhdiajjfgfaaW.PrintLast Go.Proofs.YtekmhdiajjfgfaaW.PrintMore
set_option linter.unusedVariables false
set_option linter.unusedSimpArgs false

/-- A map of texts by whole numbers, in block m, that reads as D. -/
abbrev TextsAt (w : World) (m n : Nat) (D : DataW Unit) : Prop := w.ownsMap Try.prog 3 (plainElem Try.prog 9) m n D
theorem key_int : Keyed Try.prog 3 := int_keyed Try.underlying3
theorem zero_text (w : World) : (zeroValue 9).run Try.prog w = .ok (.string ByteArray.empty) w := by kernel_rfl
theorem empty_text : plainElem (H := Unit) Try.prog 9 (.string ByteArray.empty) = some (.lit (.string []), []) := plainElem_string Try.underlying9 (by decide)

theorem look_new {w : World} {m : Nat} {n : Int} (h : TextsAt w m 0 (.map [])) (hn : (Lit.int .i64 n).wf = true) : (Instr.lookup 101 (.map (some m)) (.int .i64 n) true).run Try.prog w = .ok (.tuple #[.string ByteArray.empty, .bool false]) w := by
  obtain ⟨v, ps, h1, h2⟩ := World.ownsMap.look_ok h key_int Try.underlying101 (zero_text w) empty_text (keyOf_int_mk Try.underlying3 hn)
  obtain ⟨s, rfl, h3, _⟩ := plainElem_string_inv Try.underlying9 h2
  have e : s = ByteArray.empty := by
    have h4 : s.data.toList = [] := by simpa [DataW.atKey] using (congrArg (fun z : DataW Unit × List MemPlace => z.1) h3).symm
    apply ByteArray.ext; apply Array.ext'; rw [h4]; rfl
  subst e
  rw [h1]
  rfl
theorem made_at {w : World} {m : Nat} (h : w.heap.size = m) : TextsAt (w.alloc (.map #[] 0)) m 0 (.map []) := by
  subst h; exact World.ownsMap_made _ _ _ _

theorem new_gather (w : World) : Calls Try.prog 25 #[] w fun e w' => e = .returned (.pointer (some ⟨w.heap.size + 1, 0, none⟩)) ∧
    Box w' (w.heap.size + 1) [.int .i64 0, .int .i64 0, .int .u64 0, .bool false, .map (some w.heap.size)] 103 ∧ Kp (fun _ => False) w w' ∧ w'.heap.size = w.heap.size + 2 := by
  have hmm := @run_makeMap Try.prog
  go_enter Try.func25, Try.ntmps25
  go_wp2
  go_ret
  exact ⟨by simp, by simpa using Box.new (w.alloc _) [.int .i64 0, .int .i64 0, .int .u64 0, .bool false, .map (some w.heap.size)] _, ((Kp.refl _ _).alloc _).alloc _, by simp⟩

set_option maxRecDepth 100000 in
set_option maxHeartbeats 1600000 in
theorem put_first (k : Nat) (g : Nat) (mv : Value) (t b h n : Int) (x : ByteArray) (w : World) (hb : Box w g [.int .i64 0, .int .i64 0, .int .u64 0, .bool false, mv] 103) (hc : chunk_Piece_Check.f k t b h n x = some 0) (hn : (Lit.int .i64 n).wf = true) (hx : x.size ≤ maxLen) :
    Calls Try.prog 26 #[.pointer (some ⟨g, 0, none⟩), .agg #[.int .i64 t, .int .i64 b, .int .u64 h, .int .i64 n, .string x]] w fun e w' => e = .returned (.int .i64 0) ∧ Kp (· = g) w w' := by
  have HB := hid hb
  have c0 := hb.cell 0 rfl; have c1 := hb.cell 1 rfl; have c2 := hb.cell 2 rfl; have c3 := hb.cell 3 rfl; have c4 := hb.cell 4 rfl
  have hg := hb.lt
  clear hb
  have hmm := @run_makeMap Try.prog
  have HC := hid hc; clear hc
  go_enter Try.func26, Try.ntmps26
  go_wp2_with (go_at_call 15; refine (chunk_Piece_Check.calls k t b h n x 0 _ HC.out).mono ?_; rintro e w1 ⟨rfl, hb1⟩; have kk := Kp.of_below hb1 (fun _ => False); have px := (Box.new w [.int .i64 t, .int .i64 b, .int .u64 h, .int .i64 n, .string x] 31).kp kk (fun x => x); have gx := (HB.out.alloc (.cells #[.int .i64 t, .int .i64 b, .int .u64 h, .int .i64 n, .string x] 31)).kp kk (fun x => x); have KK := hid (((Kp.refl (fun k => k = g) w).alloc (.cells #[.int .i64 t, .int .i64 b, .int .u64 h, .int .i64 n, .string x] 31)).trans (Kp.of_below hb1 _)); clear hb1 kk c0 c1 c2 c3 c4)
  obtain ⟨p, hp⟩ : ∃ p, w.heap.size = p := ⟨_, rfl⟩
  rw [hp] at px ⊢
  have hgp : g ≠ p := by omega
  have hpg : p ≠ g := by omega
  clear hp hg
  have PX := hid px; have GX := hid gx
  have d0 := gx.cell 0 rfl; have d1 := gx.cell 1 rfl; have d2 := gx.cell 2 rfl; have d3 := gx.cell 3 rfl; have d4 := gx.cell 4 rfl
  have q0 := px.cell 0 rfl; have q1 := px.cell 1 rfl; have q2 := px.cell 2 rfl; have q3 := px.cell 3 rfl; have q4 := px.cell 4 rfl
  clear px gx
  go_quiet (fail)
  go_wp2
  go_quiet (fail)
  go_wp2_with (go_at_call 16; refine (chunk_Piece_Head.calls t b h n x t b h _ rfl).mono ?_; rintro e w3 ⟨rfl, hb3⟩; have gx3 := Box.kpD GX.out (Kp.of_below hb3 (fun _ => False)) (fun x => x); have px3 := Box.kpD PX.out (Kp.of_below hb3 (fun _ => False)) (fun x => x); have K3 := hid (Kp.transD KK.out (Kp.of_below hb3 _)); clear hb3 d0 d1 d2 d3 d4 q0 q1 q2 q3 q4; have GX3 := hid gx3; have PX3 := hid px3; have d0 := gx3.cell 0 rfl; have d1 := gx3.cell 1 rfl; have d2 := gx3.cell 2 rfl; have d3 := gx3.cell 3 rfl; have d4 := gx3.cell 4 rfl; have f0 := gx3.free 0; have f1 := gx3.free 1; have f2 := gx3.free 2; have f3 := gx3.free 3; have f4 := gx3.free 4; have hgl := gx3.lt; have hpl := px3.lt; clear gx3 px3)
  obtain ⟨m, hm⟩ : ∃ m, w3.heap.size = m := ⟨_, rfl⟩
  rw [hm]
  have hgm : g ≠ m := by omega
  have hpm : p ≠ m := by omega
  have hmg : m ≠ g := by omega
  generalize hW : (((((w3.setCell ⟨g, 3, none⟩ (.bool true)).setCell ⟨g, 0, none⟩ (.int .i64 t)).setCell ⟨g, 1, none⟩ (.int .i64 b)).setCell ⟨g, 2, none⟩ (.int .u64 h)).setCell ⟨g, 4, none⟩ (.map (some m))).alloc (.map #[] 0) = W
  have B1 : Box W g [.int .i64 t, .int .i64 b, .int .u64 h, .bool true, .map (some m)] 103 := by rw [← hW]; exact (((((GX3.out.set 3 _).set 0 _).set 1 _).set 2 _).set 4 _).alloc _
  have P1 : Box W p [.int .i64 t, .int .i64 b, .int .u64 h, .int .i64 n, .string x] 31 := by rw [← hW]; exact (((((PX3.out.set_other hgp _).set_other hgp _).set_other hgp _).set_other hgp _).set_other hgp _).alloc _
  have K1 : Hid (Kp (fun k => k = g) w W) := by rw [← hW]; exact hid ((((((K3.out.set1 3 _).set1 0 _).set1 1 _).set1 2 _).set1 4 _).alloc _)
  have T1 : TextsAt W m 0 (.map []) := by rw [← hW]; exact made_at (by simp [hm])
  have hle : w.heap.size ≤ m := hm ▸ K3.out.size
  clear hW d0 d1 d2 d3 d4 f0 f1 f2 f3 f4 GX3 PX3 K3
  have bc4 := B1.cell 4 rfl
  have pc3 := P1.cell 3 rfl
  have pc4 := P1.cell 4 rfl
  have B1 := hid B1; have P1 := hid P1; have T1 := hid T1
  refine start_ (n := 12) (S := fun w' => w'.cell? ⟨g, 4, none⟩ = some (.map (some m)) ∧ w'.cell? ⟨p, 3, none⟩ = some (.int .i64 n) ∧ (Instr.lookup 101 (.map (some m)) (.int .i64 n) true).run Try.prog w' = .ok (.tuple #[.string ByteArray.empty, .bool false]) w') (ds := []) #[false, false, false, false, false, false, false, false, false, false, false, false] (by kernel_rfl) rfl rfl ⟨(by go_simp), (by go_simp), (look_new T1.out.drew hn)⟩ (fun hHeld => ?_)
  refine pure_ (i := 0) (N := some 65) (v := ?_) (a' := ?_) #[true, false, false, false, false, false, false, false, false, false, false, false] rfl rfl (by kernel_rfl) (fun _ _ _ h => h) (Or.inl ⟨by rfl, ?_⟩) ?_ ?_
  rotate_left
  · intro w'
    go_simp
    with_reducible rfl
  rotate_left
  · simp only [Act.put, List.setIfInBounds_toArray, List.set_cons_zero, List.set_cons_succ, i64_w, i32_w]
    rfl
  refine pure_ (i := 1) (N := some 66) (v := ?_) (a' := ?_) #[true, true, false, false, false, false, false, false, false, false, false, false] rfl rfl (by kernel_rfl) (fun _ _ _ h => h) (Or.inl ⟨by rfl, ?_⟩) ?_ ?_
  rotate_left
  · intro w'
    go_simp
    with_reducible rfl
  rotate_left
  · simp only [Act.put, List.setIfInBounds_toArray, List.set_cons_zero, List.set_cons_succ, i64_w, i32_w]
    rfl
  refine pure_ (i := 2) (N := some 67) (v := ?_) (a' := ?_) #[true, true, true, false, false, false, false, false, false, false, false, false] rfl rfl (by kernel_rfl) (fun _ _ _ h => h) (Or.inl ⟨by rfl, ?_⟩) ?_ ?_
  rotate_left
  · intro w'
    go_simp
    with_reducible rfl
  rotate_left
  · simp only [Act.put, List.setIfInBounds_toArray, List.set_cons_zero, List.set_cons_succ, i64_w, i32_w]
    rfl
  refine pure_ (i := 4) (N := some 69) (v := ?_) (a' := ?_) #[true, true, true, false, true, false, false, false, false, false, false, false] rfl rfl (by kernel_rfl) (fun _ _ _ h => h) (Or.inl ⟨by rfl, ?_⟩) ?_ ?_
  rotate_left
  · intro w'
    go_simp
    with_reducible rfl
  rotate_left
  · simp only [Act.put, List.setIfInBounds_toArray, List.set_cons_zero, List.set_cons_succ, i64_w, i32_w]
    rfl
  refine take_ (i := 3) (N := some 68) (v := ?_) (a' := ?_) #[true, true, true, true, true, false, false, false, false, false, false, false] rfl rfl (by kernel_rfl) (fun _ _ _ h => h) (Or.inl ⟨by rfl, ?_⟩) hHeld ?_ ?_
  rotate_left
  · rintro w' ⟨s0, s1, s2⟩
    go_simp
    with_reducible rfl
  rotate_left
  · simp only [Act.put, List.setIfInBounds_toArray, List.set_cons_zero, List.set_cons_succ, i64_w, i32_w]
    rfl
  refine take_ (i := 5) (N := some 70) (v := ?_) (a' := ?_) #[true, true, true, true, true, true, false, false, false, false, false, false] rfl rfl (by kernel_rfl) (fun _ _ _ h => h) (Or.inl ⟨by rfl, ?_⟩) hHeld ?_ ?_
  rotate_left
  · rintro w' ⟨s0, s1, s2⟩
    go_simp
    with_reducible rfl
  rotate_left
  · simp only [Act.put, List.setIfInBounds_toArray, List.set_cons_zero, List.set_cons_succ, i64_w, i32_w]
    rfl
  refine take_ (i := 6) (N := some 71) (v := ?_) (a' := ?_) #[true, true, true, true, true, true, true, false, false, false, false, false] rfl rfl (by kernel_rfl) (fun _ _ _ h => h) (Or.inl ⟨by rfl, ?_⟩) hHeld ?_ ?_
  rotate_left
  · rintro w' ⟨s0, s1, s2⟩
    go_simp
    with_reducible rfl
  rotate_left
  · simp only [Act.put, List.setIfInBounds_toArray, List.set_cons_zero, List.set_cons_succ, i64_w, i32_w]
    rfl
  refine pure_ (i := 7) (N := some 64) (v := ?_) (a' := ?_) #[true, true, true, true, true, true, true, true, false, false, false, false] rfl rfl (by kernel_rfl) (fun _ _ _ h => h) (Or.inl ⟨by rfl, ?_⟩) ?_ ?_
  rotate_left
  · intro w'
    go_simp
    with_reducible rfl
  rotate_left
  · simp only [Act.put, List.setIfInBounds_toArray, List.set_cons_zero, List.set_cons_succ, i64_w, i32_w]
    rfl
  refine pure_ (i := 8) (N := some 72) (v := ?_) (a' := ?_) #[true, true, true, true, true, true, true, true, true, false, false, false] rfl rfl (by kernel_rfl) (fun _ _ _ h => h) (Or.inl ⟨by rfl, ?_⟩) ?_ ?_
  rotate_left
  · intro w'
    go_simp
    with_reducible rfl
  rotate_left
  · simp only [Act.put, List.setIfInBounds_toArray, List.set_cons_zero, List.set_cons_succ, i64_w, i32_w]
    rfl
  refine pure_ (i := 9) (N := some 73) (v := ?_) (a' := ?_) #[true, true, true, true, true, true, true, true, true, true, false, false] rfl rfl (by kernel_rfl) (fun _ _ _ h => h) (Or.inl ⟨by rfl, ?_⟩) ?_ ?_
  rotate_left
  · intro w'
    go_simp
    with_reducible rfl
  rotate_left
  · simp only [Act.put, List.setIfInBounds_toArray, List.set_cons_zero, List.set_cons_succ, i64_w, i32_w]
    rfl
  refine pure_ (i := 10) (N := some 6) (v := ?_) (a' := ?_) #[true, true, true, true, true, true, true, true, true, true, true, false] rfl rfl (by kernel_rfl) (fun _ _ _ h => h) (Or.inl ⟨by rfl, ?_⟩) ?_ ?_
  rotate_left
  · intro w'
    go_simp
    with_reducible rfl
  rotate_left
  · simp only [Act.put, List.setIfInBounds_toArray, List.set_cons_zero, List.set_cons_succ, i64_w, i32_w]
    rfl
  refine pure_ (i := 11) (N := some 7) (v := ?_) (a' := ?_) #[true, true, true, true, true, true, true, true, true, true, true, true] rfl rfl (by kernel_rfl) (fun _ _ _ h => h) (Or.inl ⟨by rfl, ?_⟩) ?_ ?_
  rotate_left
  · intro w'
    go_simp
    with_reducible rfl
  rotate_left
  · simp only [Act.put, List.setIfInBounds_toArray, List.set_cons_zero, List.set_cons_succ, i64_w, i32_w]
    rfl
  refine done_ (by kernel_rfl) ?_
  go_wp2
  obtain ⟨w4, hrun, hT4, hturn⟩ := World.ownsMap.store (World.ownsMap.drew (World.ownsMap.drew T1.out)) key_int Try.underlying101 (by decide) (keyOf_int_mk Try.underlying3 hn) (plainElem_string (H := Unit) Try.underlying9 hx)
  refine start_ (n := 9) (S := fun w' => w'.cell? ⟨g, 4, none⟩ = some (.map (some m)) ∧ w'.cell? ⟨p, 3, none⟩ = some (.int .i64 n) ∧ w'.cell? ⟨p, 4, none⟩ = some (.string x)) (ds := [8]) #[false, false, false, false, false, false, false, false, false] (by kernel_rfl) rfl rfl ⟨(by go_simp), (by go_simp), (by go_simp)⟩ (fun hHeld => ?_)
  refine pure_ (i := 0) (N := some 75) (v := ?_) (a' := ?_) #[true, false, false, false, false, false, false, false, false] rfl rfl (by kernel_rfl) (fun _ _ _ h => h) (Or.inl ⟨by rfl, ?_⟩) ?_ ?_
  rotate_left
  · intro w'
    go_simp
    with_reducible rfl
  rotate_left
  · simp only [Act.put, List.setIfInBounds_toArray, List.set_cons_zero, List.set_cons_succ, i64_w, i32_w]
    rfl
  refine pure_ (i := 1) (N := some 76) (v := ?_) (a' := ?_) #[true, true, false, false, false, false, false, false, false] rfl rfl (by kernel_rfl) (fun _ _ _ h => h) (Or.inl ⟨by rfl, ?_⟩) ?_ ?_
  rotate_left
  · intro w'
    go_simp
    with_reducible rfl
  rotate_left
  · simp only [Act.put, List.setIfInBounds_toArray, List.set_cons_zero, List.set_cons_succ, i64_w, i32_w]
    rfl
  refine pure_ (i := 2) (N := some 77) (v := ?_) (a' := ?_) #[true, true, true, false, false, false, false, false, false] rfl rfl (by kernel_rfl) (fun _ _ _ h => h) (Or.inl ⟨by rfl, ?_⟩) ?_ ?_
  rotate_left
  · intro w'
    go_simp
    with_reducible rfl
  rotate_left
  · simp only [Act.put, List.setIfInBounds_toArray, List.set_cons_zero, List.set_cons_succ, i64_w, i32_w]
    rfl
  refine pure_ (i := 4) (N := some 79) (v := ?_) (a' := ?_) #[true, true, true, false, true, false, false, false, false] rfl rfl (by kernel_rfl) (fun _ _ _ h => h) (Or.inl ⟨by rfl, ?_⟩) ?_ ?_
  rotate_left
  · intro w'
    go_simp
    with_reducible rfl
  rotate_left
  · simp only [Act.put, List.setIfInBounds_toArray, List.set_cons_zero, List.set_cons_succ, i64_w, i32_w]
    rfl
  refine pure_ (i := 6) (N := some 81) (v := ?_) (a' := ?_) #[true, true, true, false, true, false, true, false, false] rfl rfl (by kernel_rfl) (fun _ _ _ h => h) (Or.inl ⟨by rfl, ?_⟩) ?_ ?_
  rotate_left
  · intro w'
    go_simp
    with_reducible rfl
  rotate_left
  · simp only [Act.put, List.setIfInBounds_toArray, List.set_cons_zero, List.set_cons_succ, i64_w, i32_w]
    rfl
  refine take_ (i := 3) (N := some 78) (v := ?_) (a' := ?_) #[true, true, true, true, true, false, true, false, false] rfl rfl (by kernel_rfl) (fun _ _ _ h => h) (Or.inl ⟨by rfl, ?_⟩) hHeld ?_ ?_
  rotate_left
  · rintro w' ⟨s0, s1, s2⟩
    go_simp
    with_reducible rfl
  rotate_left
  · simp only [Act.put, List.setIfInBounds_toArray, List.set_cons_zero, List.set_cons_succ, i64_w, i32_w]
    rfl
  refine take_ (i := 5) (N := some 80) (v := ?_) (a' := ?_) #[true, true, true, true, true, true, true, false, false] rfl rfl (by kernel_rfl) (fun _ _ _ h => h) (Or.inl ⟨by rfl, ?_⟩) hHeld ?_ ?_
  rotate_left
  · rintro w' ⟨s0, s1, s2⟩
    go_simp
    with_reducible rfl
  rotate_left
  · simp only [Act.put, List.setIfInBounds_toArray, List.set_cons_zero, List.set_cons_succ, i64_w, i32_w]
    rfl
  refine take_ (i := 7) (N := some 82) (v := ?_) (a' := ?_) #[true, true, true, true, true, true, true, true, false] rfl rfl (by kernel_rfl) (fun _ _ _ h => h) (Or.inl ⟨by rfl, ?_⟩) hHeld ?_ ?_
  rotate_left
  · rintro w' ⟨s0, s1, s2⟩
    go_simp
    with_reducible rfl
  rotate_left
  · simp only [Act.put, List.setIfInBounds_toArray, List.set_cons_zero, List.set_cons_succ, i64_w, i32_w]
    rfl
  refine last_ (i := 8) (N := none) #[true, true, true, true, true, true, true, true, true] rfl rfl (by kernel_rfl) (by decide) (fun K hK => ?_)
  refine skip_ (w1 := w4) (by rfl) rfl ?_ ?_
  · go_simp
  refine hK.out _ _ ?_
  clear hK K
  refine done_ (by kernel_rfl) ?_
  go_wp2
  go_ret
  exact ⟨by rfl, Kp.grown (K1.out.drew.drew) hturn.grown (fun k hk e => by cases e; omega)⟩
end Go.Proofs.Ytekmhdiajjfgfaa.QChunkSplits
