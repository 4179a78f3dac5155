/- The writer of bytes (wire.Out): what each of its calls puts behind. -/
import Derived.Test.YtfhckddfmlljfaaProg
import Derived.Test.YtfhckddfmlljfaaKp
import Derived.Test.YtfhckddfmlljfaaBits
import Derived.Deep.AppendLies
import Derived.Deep.DeepCutAuto
import Derived.LoopN
import Derived.Lib.AppendStr
import Derived.Laws.BytesArg
namespace Go.Proofs.Ytfhckddfmlljfaa
open Go.RowKit

def B8 (c : UInt8) : Value := .int .u8 c.toNat
/-- A row of bytes that its holder alone may append to. -/
def Bytes (w : World) (v : Value) (l : List UInt8) : Prop := w.ownsRow 0 5 1 v l.length (l.map B8)
/-- An Out at block g; its row of bytes lies in block rb. -/
def OutAt (w : World) (g : Nat) (rb : Option Nat) (l : List UInt8) : Prop :=
  ∃ v, Box w g [v] 92 ∧ Bytes w v l ∧ v.ownBlock = rb ∧ rb ≠ some g
theorem OutAt.kp {w w' : World} {g : Nat} {rb : Option Nat} {l : List UInt8} {S : Nat → Prop} (h : OutAt w g rb l) (k : Kp S w w') (hg : ¬ S g) (hr : ∀ b, rb = some b → ¬ S b) : OutAt w' g rb l := by
  obtain ⟨v, hb, ho, rfl, hne⟩ := h
  refine ⟨v, hb.kp k hg, ⟨ho.1, ?_⟩, rfl, hne⟩
  rcases ho.2 with hn | ⟨b, cap, cur, rfl, h0, hh, rest⟩
  · exact .inl hn
  · exact .inr ⟨b, cap, cur, rfl, h0, by rw [k.block b (Array.getElem?_eq_some_iff.1 hh).1 (hr b rfl)]; exact hh, rest⟩
theorem OutAt.lt {w : World} {g : Nat} {rb : Option Nat} {l : List UInt8} (h : OutAt w g rb l) : g < w.heap.size ∧ ∀ b, rb = some b → b < w.heap.size := by
  obtain ⟨v, hb, ho, rfl, _⟩ := h
  exact ⟨hb.lt, fun b e => (ho.lt b e).2⟩
theorem OutAt.new (w : World) : OutAt (w.alloc (.cells #[.slice none 0 0] 92)) w.heap.size none [] :=
  ⟨.slice none 0 0, Box.new w [.slice none 0 0] _, World.ownsRow_nil _ _ _ _, rfl, by simp⟩

/-- From w to w' the Out at g, whose row lay in rb, came to hold l; nothing else of what was there has turned. -/
def OutTo (w w' : World) (g : Nat) (rb : Option Nat) (l : List UInt8) : Prop :=
  ∃ rb', OutAt w' g rb' l ∧ (rb' = rb ∨ ∃ k, rb' = some k ∧ w.heap.size ≤ k) ∧ Kp (fun k => k = g ∨ some k = rb) w w'
theorem OutAt.to {w : World} {g : Nat} {rb : Option Nat} {l : List UInt8} (h : OutAt w g rb l) : OutTo w w g rb l := ⟨rb, h, .inl rfl, Kp.refl _ _⟩
theorem OutTo.then {w w1 w2 : World} {g : Nat} {rb rb1 : Option Nat} {l : List UInt8} (hr : rb1 = rb ∨ ∃ k, rb1 = some k ∧ w.heap.size ≤ k) (k1 : Kp (fun k => k = g ∨ some k = rb) w w1)
    (h2 : OutTo w1 w2 g rb1 l) : OutTo w w2 g rb l := by
  obtain ⟨rb2, h2, hr2, k2⟩ := h2
  refine ⟨rb2, h2, ?_, k1.then k2 (fun _ _ h => h) ?_⟩
  · rcases hr2 with rfl | ⟨k, rfl, hk⟩
    · exact hr
    · exact .inr ⟨k, rfl, Nat.le_trans k1.size hk⟩
  · intro i hi h
    rcases h with h | h
    · exact .inl h
    · rcases hr with rfl | ⟨k, rfl, hk⟩
      · exact .inr h
      · simp only [Option.some.injEq] at h; omega

/-- A row of whole numbers that is read (nil: none). -/
def Ints (w : World) (k : IntKind) (A : Option Addr) (ns : List Int) : Prop :=
  ns = [] ∨ ∃ b off, A = some ⟨b, off, none⟩ ∧ ∀ j x, ns[j]? = some x → w.cell? ⟨b, off + j, none⟩ = some (.int k x)
theorem Ints.kp {w w' : World} {k : IntKind} {A : Option Addr} {ns : List Int} {S : Nat → Prop} (h : Ints w k A ns) (kp : Kp S w w') (hd : ∀ a, A = some a → ¬ S a.block) : Ints w' k A ns := by
  rcases h with h | ⟨b, off, rfl, h⟩
  · exact .inl h
  · exact .inr ⟨b, off, rfl, fun j x hj => kp.cell (h j x hj) (hd ⟨b, off, none⟩ rfl)⟩

theorem Try.info8 : (Try.prog.info? 5).map (fun i => (i.zero, i.size, i.bytes)) = some (some (.int .u8 0), 1, 1) := by kernel_rfl

/-- 'append(v, c)' as the walk meets it: the byte lies in a new block. -/
theorem wpList_push {ops : Array Oper} {rest : List Oper} {o : Oper} {a : Act} {Q : Exit → Act → World → Prop} (hgd : o.guard = none) (s x : Operand)
    (ho : o.op = .call { callee := .builtin .append, args := #[s, x], argTypes := #[90, 90] })
    (w : World) (v : Value) (l : List UInt8) (c : Int) (hc : 0 ≤ c ∧ c < 256) (hs : a.eval s = v) (hown : Bytes w v l) (hx : a.eval x = .slice (some ⟨w.heap.size, 0, none⟩) 1 1) (hl : l.length ≤ 70368744177664)
    (h : ∀ g cap n w', Bytes w' (.slice (some ⟨g, 0, none⟩) n cap) (l ++ [UInt8.ofNat c.toNat]) → Kp (fun k => some k = v.ownBlock) w w' → ((Value.slice (some ⟨g, 0, none⟩) n cap).ownBlock = v.ownBlock ∨ ∃ k, (Value.slice (some ⟨g, 0, none⟩) n cap).ownBlock = some k ∧ w.heap.size ≤ k) →
      wpList Try.prog ops Q rest (a.put o.dst (.slice (some ⟨g, 0, none⟩) n cap)) w') :
    wpList Try.prog ops Q (o :: rest) a (w.alloc (.cells #[.int .u8 c] 5)) := by
  obtain ⟨i0, hi, hz0, hz1, hz2⟩ := info_parts Try.info8
  refine wpList_append_lies _ hgd s x 90 ho 0 5 i0 (.int .u8 0) 1 1 Try.underlying90 hi hz0 hz1 hz2 rfl (by decide) v l.length (l.map B8) hs (hown.alloc _) ⟨w.heap.size, 0, none⟩ 1 1 [.int .u8 c] hx rfl ?_ ?_ (by decide) (by unfold maxLen; omega) (by omega) (Nat.zero_le _) (w.heap.size + 1) (by simp) ?_
  · intro j u hj
    match j, hj with
    | 0, hj => simp at hj; subst hj; simp [Addr.add]
  · intro u hu; simp at hu; subst hu; rfl
  · intro g cap w' h2 h3 h4 _
    refine h g cap _ w' ?_ (((Kp.refl _ w).alloc _).grown h3 (fun k _ e => e.symm)) (h4.imp (fun e => e.symm) (fun e => ⟨g, rfl, by omega⟩))
    have e : (l ++ [UInt8.ofNat c.toNat]).map B8 = l.map B8 ++ [.int .u8 c] := by
      have : ((UInt8.ofNat c.toNat).toNat : Int) = c := by rw [UInt8.toNat_ofNat']; omega
      rw [List.map_append, List.map_singleton]; unfold B8; rw [this]
    unfold Bytes
    rw [e, List.length_append]
    exact h2

open Go.Lib (run_append_own_string run_append_room_string run_append_grow_string strCells strCells_length) in
theorem run_append_str_at {P : Program} (w : World) (t u ty e : TypeId) (i : TypeInfo) (ht : P.underlying t = some (.slice e)) (hu : P.underlying u = some .string) (hi : P.info? e = some i) (hz : i.zero = some (.int .u8 0))
    (hsize : i.size = 1) (hby : i.bytes = 1) (v : Value) (n : Nat) (xs : List Value) (hown : w.ownsRow 0 e 1 v n xs) (s : ByteArray)
    (h63 : n + s.size ≤ maxLen) (hbytes : n + s.size ≤ 140737488355328) :
    ∃ v' w', (Builtin.append_ #[t, u] ty #[v, .string s]).run P w = .ok v' w' ∧ w'.ownsRow 0 e 1 v' (n + s.size) (xs ++ strCells s) ∧ w.grownBy w' v.ownBlock ∧
      (v'.ownBlock = v.ownBlock ∨ ∃ k, v'.ownBlock = some k ∧ w.heap.size ≤ k) := by
  obtain ⟨v', w', hr, h2, h3, _⟩ := run_append_own_string (P := P) w 0 t u ty e i ht hu hi hz hsize hby v n xs hown s h63 hbytes (Nat.zero_le _)
  refine ⟨v', w', hr, h2, h3, ?_⟩
  rcases hown.2 with ⟨rfl, rfl⟩ | ⟨g, cap, cur, rfl, _, hg, hnc, hcm, hcs, htake⟩
  · have hx : xs = [] := List.eq_nil_of_length_eq_zero (by simpa using hown.1)
    subst hx
    obtain ⟨v2, w2, hr2, h22, _, _⟩ := run_append_own_string (P := P) w w.heap.size t u ty e i ht hu hi hz hsize hby (.slice none 0 0) 0 [] (World.ownsRow_nil _ _ _ _) s h63 hbytes (Nat.le_refl _)
    rw [hr] at hr2
    obtain ⟨rfl, rfl⟩ : v' = v2 ∧ w' = w2 := by injection hr2 with a b; exact ⟨a, b⟩
    rcases h22.2 with ⟨rfl, _⟩ | ⟨g', cap', _, rfl, hb, _⟩
    · exact .inl rfl
    · exact .inr ⟨g', rfl, hb⟩
  · by_cases hroom : n + s.size ≤ cap
    · have hr2 := run_append_room_string (P := P) w t u ty e i ht hu hi hsize g n cap cur hg s hroom (by omega)
      rw [hr] at hr2
      injection hr2 with a _
      exact .inl (by rw [a]; rfl)
    · have holds : ∀ j u, xs[j]? = some u → w.cell? ((⟨g, 0, none⟩ : Addr).add j) = some u := hown.cells (g := g) rfl
      have hr2 := run_append_grow_string (P := P) w t u ty e i (.int .u8 0) ht hu hi hz ⟨g, 0, none⟩ n cap xs (by rw [hsize]; exact hown.1) holds s (by omega) (by omega) (by rw [hby]; exact growslice_fits (by omega) (by omega))
      rw [hr] at hr2
      injection hr2 with a _
      exact .inr ⟨w.heap.size, by rw [a]; rfl, Nat.le_refl _⟩

/-- 'append(v, s...)' of a text. -/
theorem wpList_puts {ops : Array Oper} {rest : List Oper} {o : Oper} {a : Act} {Q : Exit → Act → World → Prop} (hgd : o.guard = none) (sl x : Operand)
    (ho : o.op = .call { callee := .builtin .append, args := #[sl, x], argTypes := #[90, 9] })
    (w : World) (v : Value) (l : List UInt8) (s : ByteArray) (hs : a.eval sl = v) (hown : Bytes w v l) (hx : a.eval x = .string s) (hl : l.length + s.size ≤ 70368744177664)
    (h : ∀ v' w', Bytes w' v' (l ++ s.data.toList) → Kp (fun k => some k = v.ownBlock) w w' → (v'.ownBlock = v.ownBlock ∨ ∃ k, v'.ownBlock = some k ∧ w.heap.size ≤ k) → wpList Try.prog ops Q rest (a.put o.dst v') w') :
    wpList Try.prog ops Q (o :: rest) a w := by
  obtain ⟨i0, hi, hz0, hz1, hz2⟩ := info_parts Try.info8
  refine wpList_plain hgd fun K hK => ?_
  obtain ⟨v', w', hr, h2, h3, h4⟩ := run_append_str_at (P := Try.prog) w 90 9 o.type 5 i0 Try.underlying90 Try.underlying9 hi hz0 hz1 hz2 v l.length (l.map B8) hown s (by unfold maxLen; omega) (by omega)
  unfold Oper.wp execOp
  simp only [ho, resolve, invoke, builtin, Sem.run_bind, Sem.run_pure, Result.andThen_ok, List.map_toArray, List.map_cons, List.map_nil, hs, hx, hr]
  refine hK _ _ (h v' w' ?_ ((Kp.refl _ w).grown h3 (fun k _ e => e.symm)) h4)
  have e : (l ++ s.data.toList).map B8 = l.map B8 ++ Go.Lib.strCells s := by rw [List.map_append]; rfl
  have el : (l ++ s.data.toList).length = l.length + s.size := by rw [List.length_append, Array.length_toList]; rfl
  unfold Bytes
  rw [e, el]
  exact h2

/-- A number's bytes. -/
def nb (n : Int) : List UInt8 := Lib.uvarint n.toNat
def nbs (ns : List Int) : List UInt8 := ns.flatMap nb
theorem nb_length {n : Int} (h : n < 18446744073709551616) : (nb n).length ≤ 10 := Lib.uvarint_length64 (by omega)
theorem nbs_length : ∀ ns : List Int, (∀ n ∈ ns, n < 18446744073709551616) → (nbs ns).length ≤ 10 * ns.length
  | [], _ => by simp [nbs]
  | n :: ns, h => by
    have h1 := nb_length (h n (by simp))
    have h2 := nbs_length ns fun x hx => h x (by simp [hx])
    simp only [nbs, List.flatMap_cons, List.length_append, List.length_cons] at h2 ⊢; omega
theorem nb_small {n : Int} (h0 : 0 ≤ n) (h : n < 128) : nb n = [UInt8.ofNat n.toNat] := by
  unfold nb; rw [Lib.uvarint_small (by omega)]
theorem nb_big {n : Int} (h : 128 ≤ n) : nb n = UInt8.ofNat (n % 128 + 128).toNat :: nb (n / 128) := by
  unfold nb; rw [Lib.uvarint_big (by omega)]
  congr 2 <;> omega
theorem u8_of_big (n : Int) : bits .or .u8 (n % 256) 128 = n % 128 + 128 := by
  rw [Lib.u8_or128_any _ (by omega) (by omega)]; omega
theorem u8_of_small (n : Int) (h0 : 0 ≤ n) (h : n < 128) : n % 256 = n := by omega

/-- Behind an append and the store into the Out. -/
theorem OutTo.push {w wr w1 : World} {g : Nat} {rb rb1 : Option Nat} {v v1 : Value} {l : List UInt8} (hrb : rb1 = rb ∨ ∃ k, rb1 = some k ∧ w.heap.size ≤ k) (k1 : Kp (fun k => k = g ∨ some k = rb) w wr)
    (hbx : Box wr g [v] 92) (hv : v.ownBlock = rb1) (hne : rb1 ≠ some g) (hb1 : Bytes w1 v1 l) (k2 : Kp (fun k => some k = v.ownBlock) wr w1) (hg1 : v1.ownBlock = v.ownBlock ∨ ∃ k, v1.ownBlock = some k ∧ wr.heap.size ≤ k) :
    OutTo w (w1.setCell ⟨g, 0, none⟩ v1) g rb l := by
  have hg : g < wr.heap.size := hbx.lt
  have hn1 : v1.ownBlock ≠ some g := by
    rcases hg1 with h | ⟨k, h, hk⟩
    · rw [h, hv]; exact hne
    · rw [h]; simp only [ne_eq, Option.some.injEq]; omega
  have hbx1 : Box w1 g [v] _ := hbx.kp k2 (by rw [hv]; exact fun e => hne e.symm)
  refine OutTo.then hrb k1 ⟨v1.ownBlock, ⟨v1, hbx1.set 0 v1, ?_, rfl, hn1⟩, ?_, ?_⟩
  · refine ⟨hb1.1, ?_⟩
    rcases hb1.2 with h | ⟨b, cap, cur, rfl, h0, hh, rest⟩
    · exact .inl h
    · exact .inr ⟨b, cap, cur, rfl, h0, by rw [Below.heap_setCell _ _ _ _ (by simpa [Value.ownBlock] using hn1)]; exact hh, rest⟩
  · rcases hg1 with h | ⟨k, h, hk⟩
    · exact .inl (h.trans hv)
    · exact .inr ⟨k, h, hk⟩
  · exact (k2.mono (fun k _ h => .inr (h.trans hv))).setCell (fun _ => .inl rfl) _

set_option maxRecDepth 100000 in
set_option maxHeartbeats 1600000 in
theorem num_out (g : Nat) (rb : Option Nat) (l : List UInt8) (A : Option Addr) (c : Nat) (ns : List Int) (w : World) (h : OutAt w g rb l) (hr : Ints w .u64 A ns)
    (hd : ∀ a, A = some a → a.block ≠ g ∧ some a.block ≠ rb) (hc : ns.length ≤ c) (hwf : ∀ x ∈ ns, 0 ≤ x ∧ x < 18446744073709551616) (hb : l.length + 10 * ns.length ≤ 1099511627776) :
    Calls Try.prog 67 #[.pointer (some ⟨g, 0, none⟩), .slice A ns.length c] w fun x w' => x = .returned (.pointer (some ⟨g, 0, none⟩)) ∧ OutTo w w' g rb (l ++ nbs ns) := by
  have HH := hid h; have HR := hid hr; have HD := hid hd; have HW := hid hwf
  clear h hr hd hwf
  go_enter Try.func67, Try.ntmps67
  go_wp2
  go_loopw [6, 9] (fun _ v9 wr => ∃ i : Nat, i ≤ ns.length ∧ v9 = .int .i64 i ∧ OutTo w wr g rb (l ++ nbs (ns.take i))) (fun _ v9 _ => ns.length - (intOf v9).toNat)
  case atStart => exact ⟨0, Nat.zero_le _, rfl, by simpa [nbs] using HH.out.to⟩
  case round =>
    obtain ⟨i, hi, rfl, hot⟩ := hrel
    have HOT := hid hot; clear hot
    by_cases hlt : i < ns.length
    · obtain ⟨b, off, rfl, hcell⟩ : ∃ b off, A = some ⟨b, off, none⟩ ∧ ∀ j x, ns[j]? = some x → w.cell? ⟨b, off + j, none⟩ = some (.int .u64 x) := by
        rcases HR.out with h | h
        · subst h; simp at hlt
        · exact h
      obtain ⟨n0, hn0⟩ : ∃ n0, ns[i]? = some n0 := ⟨_, List.getElem?_eq_getElem hlt⟩
      have hn0m := HW.out n0 (List.mem_of_getElem? hn0)
      have hlen := nbs_length (ns.take i) fun x hx => (HW.out x (List.mem_of_mem_take hx)).2
      have hc0 : wr.cell? ⟨b, off + i, none⟩ = some (.int .u64 n0) := by
        obtain ⟨_, _, _, k⟩ := HOT.out
        exact k.cell (hcell i n0 hn0) (by have := HD.out _ rfl; simp only at this ⊢; exact fun x => x.elim this.1 this.2)
      have htk : nbs (ns.take (i + 1)) = nbs (ns.take i) ++ nb n0 := by
        rw [List.take_add_one, hn0]; simp [nbs]
      rw [List.length_take, Nat.min_eq_left hi] at hlen
      have HTK := hid htk; clear htk
      have HN0 := hid hn0; have HCL := hid hcell; clear hn0 hcell
      generalize nbs (ns.take i) = done at *
      go_wp2
      obtain ⟨wo, rfl⟩ : ∃ wo : World, wo = wr := ⟨_, rfl⟩
      go_loopw [6] (fun v6 wi => ∃ (m : Int) (acc : List UInt8), 0 ≤ m ∧ m < 18446744073709551616 ∧ v6 = .int .u64 m ∧ Hid (acc ++ nb m = nb n0) ∧ OutTo w wi g rb (l ++ done ++ acc)) (fun v6 _ => (intOf v6).toNat)
      case atStart => exact ⟨n0, [], hn0m.1, hn0m.2, rfl, hid rfl, by simpa using HOT.out⟩
      case round =>
        obtain ⟨m, acc, hm0, hm1, rfl, HA, hot⟩ := hrel
        have hal : acc.length ≤ 10 := by have h1 := congrArg List.length HA.out; have := nb_length hn0m.2; rw [List.length_append] at h1; omega
        obtain ⟨rb1, ⟨v, hbx, hby, hvb, hne⟩, hrb1, k1⟩ := hot
        have hcv := hbx.cell 0 rfl
        have hfv := hbx.free 0
        have HBX := hid hbx; have HBY := hid hby; have HVB := hid hvb; have HNE := hid hne; have HRB := hid hrb1; have HK1 := hid k1
        clear hbx hby hvb hne hrb1 k1
        by_cases hm : 127 < m
        · have hx8 := u8_of_big m
          go_wp2_with (at_builtin; refine wpList_push rfl (.tmp 19) (.tmp 23) rfl wr v (l ++ done ++ acc) (m % 128 + 128) (by omega) rfl HBY.out rfl (by simp only [List.length_append]; omega) ?_; intro g1 cap n1 w1 hb1 k2 hg1; have HB1 := hid hb1; have HK2 := hid k2; have HG1 := hid hg1; clear hb1 k2 hg1; have hbx1 := HBX.out.kp HK2.out (by rw [HVB.out]; exact fun e => HNE.out e.symm); have hcv1 := hbx1.cell 0 rfl; have hfv1 := hbx1.free 0; have HBX1 := hid hbx1; clear hbx1)
          go_roundw
          case rel =>
            refine ⟨m / 128, acc ++ [UInt8.ofNat (m % 128 + 128).toNat], by omega, by omega, by go_num, hid (by rw [← HA.out, nb_big (n := m) (by omega), List.append_assoc]; rfl), ?_⟩
            rw [← List.append_assoc]
            exact OutTo.push HRB.out HK1.out HBX.out HVB.out HNE.out HB1.out HK2.out HG1.out
          case measure => simp [intOf]; omega
        · have hx8 := u8_of_small m hm0 (by omega)
          go_wp2_with (at_builtin; refine wpList_push rfl (.tmp 33) (.tmp 36) rfl wr v (l ++ done ++ acc) m (by omega) rfl HBY.out rfl (by simp only [List.length_append]; omega) ?_; intro g1 cap n1 w1 hb1 k2 hg1; have HB1 := hid hb1; have HK2 := hid k2; have HG1 := hid hg1; clear hb1 k2 hg1; have hbx1 := HBX.out.kp HK2.out (by rw [HVB.out]; exact fun e => HNE.out e.symm); have hcv1 := hbx1.cell 0 rfl; have hfv1 := hbx1.free 0; have HBX1 := hid hbx1; clear hbx1)
          go_roundw
          case rel =>
            refine ⟨i + 1, by omega, by go_num, ?_⟩
            rw [HTK.out, ← HA.out, nb_small (n := m) hm0 (by omega), ← List.append_assoc, ← List.append_assoc]
            exact OutTo.push HRB.out HK1.out HBX.out HVB.out HNE.out HB1.out HK2.out HG1.out
          case measure => simp [intOf]; omega
    · go_wp2
      go_ret
      have hi' : i = ns.length := by omega
      exact ⟨rfl, by have := HOT.out; rwa [hi', List.take_length] at this⟩

theorem Ints.lit (w : World) (k : IntKind) (ns : List Int) (t : TypeId) : Ints (w.alloc (.cells (ns.map (Value.int k)).toArray t)) k (some ⟨w.heap.size, 0, none⟩) ns :=
  .inr ⟨w.heap.size, 0, rfl, fun j x hj => (Box.new w (ns.map (Value.int k)) t).cell (0 + j) (by simp [hj])⟩
/-- A row of texts that is read. -/
def Strs (w : World) (A : Option Addr) (ss : List ByteArray) : Prop :=
  ss = [] ∨ ∃ b off, A = some ⟨b, off, none⟩ ∧ ∀ j x, ss[j]? = some x → w.cell? ⟨b, off + j, none⟩ = some (.string x)
theorem Strs.kp {w w' : World} {A : Option Addr} {ss : List ByteArray} {S : Nat → Prop} (h : Strs w A ss) (kp : Kp S w w') (hd : ∀ a, A = some a → ¬ S a.block) : Strs w' A ss := by
  rcases h with h | ⟨b, off, rfl, h⟩
  · exact .inl h
  · exact .inr ⟨b, off, rfl, fun j x hj => kp.cell (h j x hj) (hd ⟨b, off, none⟩ rfl)⟩
theorem Strs.lit (w : World) (ss : List ByteArray) (t : TypeId) : Strs (w.alloc (.cells (ss.map Value.string).toArray t)) (some ⟨w.heap.size, 0, none⟩) ss :=
  .inr ⟨w.heap.size, 0, rfl, fun j x hj => (Box.new w (ss.map Value.string) t).cell (0 + j) (by simp [hj])⟩
theorem OutAt.alloc {w : World} {g : Nat} {rb : Option Nat} {l : List UInt8} (h : OutAt w g rb l) (o : Obj) : OutAt (w.alloc o) g rb l :=
  h.kp ((Kp.refl (fun _ => False) w).alloc o) (fun x => x) (fun _ _ x => x)
theorem OutAt.apart {w : World} {g : Nat} {rb : Option Nat} {l : List UInt8} (h : OutAt w g rb l) : ∀ a, some (⟨w.heap.size, 0, none⟩ : Addr) = some a → a.block ≠ g ∧ some a.block ≠ rb := by
  intro a e
  cases e
  have := h.lt
  exact ⟨by show w.heap.size ≠ g; omega, fun e => by have := this.2 _ e.symm; simp only at this; omega⟩
theorem OutTo.alloc {w w' : World} {g : Nat} {rb : Option Nat} {l : List UInt8} {o : Obj} (h : OutTo (w.alloc o) w' g rb l) : OutTo w w' g rb l := by
  obtain ⟨rb', h1, h2, h3⟩ := h
  refine ⟨rb', h1, h2.imp id (fun ⟨k, e, hk⟩ => ⟨k, e, by simp at hk; omega⟩), ((Kp.refl _ w).alloc o).trans h3⟩
theorem OutTo.trans {w w1 w2 : World} {g : Nat} {rb : Option Nat} {l1 l2 : List UInt8} (h : OutTo w w1 g rb l1) (h2 : ∀ rb1, OutAt w1 g rb1 l1 → OutTo w1 w2 g rb1 l2) : OutTo w w2 g rb l2 := by
  obtain ⟨rb1, a, b, c⟩ := h
  exact OutTo.then b c (h2 rb1 a)

/-- Numbers from 0 on, texts. -/
def cb (n : Int) : List UInt8 := nb (if n < 0 then 0 else n)
def cbs (ns : List Int) : List UInt8 := ns.flatMap cb
def sb (s : ByteArray) : List UInt8 := nb s.size ++ s.data.toList
def sbs (ss : List ByteArray) : List UInt8 := ss.flatMap sb
theorem cb_length {n : Int} (h : n ≤ 9223372036854775807) : (cb n).length ≤ 10 := nb_length (by split <;> omega)
theorem cbs_length : ∀ ns : List Int, (∀ n ∈ ns, n ≤ 9223372036854775807) → (cbs ns).length ≤ 10 * ns.length
  | [], _ => by simp [cbs]
  | n :: ns, h => by
    have h1 := cb_length (h n (by simp))
    have h2 := cbs_length ns fun x hx => h x (by simp [hx])
    simp only [cbs, List.flatMap_cons, List.length_append, List.length_cons] at h2 ⊢; omega

set_option maxRecDepth 100000 in
set_option maxHeartbeats 1600000 in
theorem count_out (g : Nat) (rb : Option Nat) (l : List UInt8) (A : Option Addr) (c : Nat) (ns : List Int) (w : World) (h : OutAt w g rb l) (hr : Ints w .i64 A ns)
    (hd : ∀ a, A = some a → a.block ≠ g ∧ some a.block ≠ rb) (hc : ns.length ≤ c) (hwf : ∀ x ∈ ns, x ≤ 9223372036854775807) (hb : l.length + 10 * ns.length ≤ 549755813888) :
    Calls Try.prog 68 #[.pointer (some ⟨g, 0, none⟩), .slice A ns.length c] w fun x w' => x = .returned (.pointer (some ⟨g, 0, none⟩)) ∧ OutTo w w' g rb (l ++ cbs ns) := by
  have HH := hid h; have HR := hid hr; have HD := hid hd; have HW := hid hwf
  clear h hr hd hwf
  go_enter Try.func68, Try.ntmps68
  go_wp2
  go_loopw [6, 9] (fun _ v9 wr => ∃ i : Nat, i ≤ ns.length ∧ v9 = .int .i64 i ∧ OutTo w wr g rb (l ++ cbs (ns.take i))) (fun _ v9 _ => ns.length - (intOf v9).toNat)
  case atStart => exact ⟨0, Nat.zero_le _, rfl, by simpa [cbs] using HH.out.to⟩
  case round =>
    obtain ⟨i, hi, rfl, hot⟩ := hrel
    have HOT := hid hot; clear hot
    by_cases hlt : i < ns.length
    · obtain ⟨b, off, rfl, hcell⟩ : ∃ b off, A = some ⟨b, off, none⟩ ∧ ∀ j x, ns[j]? = some x → w.cell? ⟨b, off + j, none⟩ = some (.int .i64 x) := by
        rcases HR.out with h | h
        · subst h; simp at hlt
        · exact h
      obtain ⟨n0, hn0⟩ : ∃ n0, ns[i]? = some n0 := ⟨_, List.getElem?_eq_getElem hlt⟩
      have hn0m := HW.out n0 (List.mem_of_getElem? hn0)
      have hlen := cbs_length (ns.take i) fun x hx => HW.out x (List.mem_of_mem_take hx)
      have hc0 : wr.cell? ⟨b, off + i, none⟩ = some (.int .i64 n0) := by
        obtain ⟨_, _, _, k⟩ := HOT.out
        exact k.cell (hcell i n0 hn0) (by have := HD.out _ rfl; simp only at this ⊢; exact fun x => x.elim this.1 this.2)
      have htk : cbs (ns.take (i + 1)) = cbs (ns.take i) ++ cb n0 := by
        rw [List.take_add_one, hn0]; simp [cbs]
      rw [List.length_take, Nat.min_eq_left hi] at hlen
      have HTK := hid htk; clear htk hn0 hcell
      generalize cbs (ns.take i) = done at *
      obtain ⟨rb1, hot, hrb, hk⟩ := HOT.out
      have HOA := hid hot; have HRB := hid hrb; have HKP := hid hk
      clear hot hrb hk
      by_cases hneg : n0 < 0
      · have he : cb n0 = nbs [0] := by simp [cb, nbs, hneg]
        have HE := hid he; clear he
        go_wp2_with (go_at_call 67; refine (num_out g rb1 (l ++ done) _ 1 [0] _ (HOA.out.alloc _) (Ints.lit wr .u64 [0] _) HOA.out.apart (by decide) (by simp) (by simp only [List.length_append, List.length_singleton]; omega)).mono ?_; rintro x w1 ⟨rfl, hot1⟩; have HO1 := hid hot1; clear hot1)
        go_roundw
        case rel => exact ⟨i + 1, by omega, by go_num, by rw [HTK.out, HE.out, ← List.append_assoc]; exact OutTo.then HRB.out HKP.out HO1.out.alloc⟩
        case measure => simp [intOf]; omega
      · have he : cb n0 = nbs [n0] := by simp [cb, nbs, hneg]
        have HE := hid he; clear he
        go_wp2_with (go_at_call 67; refine (num_out g rb1 (l ++ done) _ 1 [n0] _ (HOA.out.alloc _) (Ints.lit wr .u64 [n0] _) HOA.out.apart (by simp) (by simp; omega) (by simp only [List.length_append, List.length_singleton]; omega)).mono ?_; rintro x w1 ⟨rfl, hot1⟩; have HO1 := hid hot1; clear hot1)
        go_roundw
        case rel => exact ⟨i + 1, by omega, by go_num, by rw [HTK.out, HE.out, ← List.append_assoc]; exact OutTo.then HRB.out HKP.out HO1.out.alloc⟩
        case measure => simp [intOf]; omega
    · go_wp2
      go_ret
      have hi' : i = ns.length := by omega
      exact ⟨rfl, by have := HOT.out; rwa [hi', List.take_length] at this⟩

theorem strOfNums_bytes (l : List UInt8) : strOfNums (l.map fun c => (c.toNat : Int)) = ⟨l.toArray⟩ := by
  unfold strOfNums
  rw [List.map_map]
  have : (l.map ((fun n : Int => UInt8.ofNat n.toNat) ∘ fun c : UInt8 => (c.toNat : Int))) = l := by
    conv => rhs; rw [← List.map_id l]
    apply List.map_congr_left
    intro c _
    simp
  rw [this]

theorem text_out (g : Nat) (rb : Option Nat) (l : List UInt8) (w : World) (h : OutAt w g rb l) :
    Calls Try.prog 51 #[.pointer (some ⟨g, 0, none⟩)] w fun x w' => x = .returned (.string ⟨l.toArray⟩) ∧ w = w' := by
  obtain ⟨v, hbx, hby, hvb, hne⟩ := h
  have hcv := hbx.cell 0 rfl
  have hrun : (convert 90 9 v).run Try.prog w = .ok (.string ⟨l.toArray⟩) w := by
    rcases hby.2 with ⟨rfl, hn⟩ | ⟨b, cap, cur, rfl, _⟩
    · have : l = [] := List.eq_nil_of_length_eq_zero hn
      subst this
      exact run_convert_bytes_nil w 90 5 Try.underlying90 Try.underlying5 0 0 _ Try.underlying9
    · have hr := run_convert_bytes_arg (P := Try.prog) w 90 5 Try.underlying90 Try.underlying5 b 0 l.length cap (l.map fun c => (c.toNat : Int)) (by simp) ?_ _ Try.underlying9
      · rw [hr, strOfNums_bytes]
      · intro i hi
        have := hby.cells (g := b) rfl i (B8 l[i]) (by simp [hi])
        rw [Addr.add_lit, Nat.zero_add] at this
        rw [Nat.zero_add, this]
        simp [B8, hi]
  have HX := hid hby; have HY := hid hbx
  clear hby hbx hvb hne
  go_enter Try.func51, Try.ntmps51
  go_wp2
  go_ret
  exact ⟨rfl, rfl⟩
end Go.Proofs.Ytfhckddfmlljfaa
