/- Records' bytes, and back; the law's Fit may be: plain laws. -/
import Derived.Test.YtgkhedmjkahclaaGreatDoorURec
import Derived.Test.YtgkhedmjkahclaaGreatDoorURecB
import Derived.Test.YtgkhedmjkahclaaGreatDoorUChgB
namespace Go.Proofs.YtgkhedmjkahclaaGreatDoor.TL
open Go
set_option linter.unusedVariables false
set_option linter.unusedSimpArgs false

theorem chgr_nb (rest : List UInt8) {c : Chg} (h : c.rd) : In.chg ⟨c.bytes ++ rest, 0⟩ = (⟨rest, 0⟩, c) := by
  obtain ⟨h1, h2, h3, h4⟩ := h
  have e1 : c.bytes ++ rest = nb c.k.toNat ++ (nb c.p.toNat ++ (nb c.v.length ++ (nbs (c.v.map Int.toNat) ++ rest))) := by simp [Chg.bytes, nbs]
  have k1 := In.count_nb (nb c.p.toNat ++ (nb c.v.length ++ (nbs (c.v.map Int.toNat) ++ rest))) (n := c.k.toNat) (m := 3) (by decide) (by omega)
  have k2 := In.count_nb (nb c.v.length ++ (nbs (c.v.map Int.toNat) ++ rest)) (n := c.p.toNat) (m := 31) (by decide) (by omega)
  have k3 := In.count_nb (nbs (c.v.map Int.toNat) ++ rest) (n := c.v.length) (m := 32) (by decide) (by omega)
  have k4 := vot_nb rest c.v [] h3
  have e2 : ((c.k.toNat : Nat) : Int) = c.k := by omega
  have e3 : ((c.p.toNat : Nat) : Int) = c.p := by omega
  unfold In.chg
  simp only [e1, k1, k2, k3, Int.toNat_natCast, k4, e2, e3]
  simp
theorem chgs_nb (rest : List UInt8) : ∀ (v pre : List Chg), (∀ c ∈ v, c.rd) → In.chgs v.length ⟨chgB v ++ rest, 0⟩ pre = (⟨rest, 0⟩, pre ++ v)
  | [], pre, _ => by simp [In.chgs, chgB]
  | c :: v, pre, h => by
    have e1 : chgB (c :: v) ++ rest = c.bytes ++ (chgB v ++ rest) := by simp [chgB]
    rw [List.length_cons, In.chgs, if_neg (by simp), e1, chgr_nb _ (h c List.mem_cons_self), chgs_nb rest v (pre ++ [c]) fun m hm => h m (List.mem_cons_of_mem _ hm)]
    simp
theorem chk_ku {o : Ord} (h : o.chk = 0) : (1 ≤ o.k ∧ o.k ≤ 4) ∧ (0 ≤ o.u ∧ o.u < 1099511627776) := by
  unfold Ord.chk at h
  split at h
  · cases h
  split at h
  · cases h
  omega
theorem ord_nb (rest : List UInt8) {o : Ord} (h : o.chk = 0) (hok : o.ok) : In.ord ⟨o.ob ++ rest, 0⟩ = (⟨rest, 0⟩, o) := by
  obtain ⟨h1, h2⟩ := chk_ku h
  obtain ⟨_, _, h3, h4⟩ := hok
  have eu : IntKind.u64.wrap o.u = o.u := u64_id (by omega) (by omega)
  have e1 : o.ob ++ rest = nb o.k.toNat ++ (nb o.u.toNat ++ (nb (zig o.a) ++ (nb (zig o.b) ++ rest))) := by simp [Ord.ob, eu]
  have k1 := In.count_nb (nb o.u.toNat ++ (nb (zig o.a) ++ (nb (zig o.b) ++ rest))) (n := o.k.toNat) (m := 4) (by decide) (by omega)
  have k2 := In.count_nb (nb (zig o.a) ++ (nb (zig o.b) ++ rest)) (n := o.u.toNat) (m := 1099511627776) (by decide) (by omega)
  have k3 := In.int_nb (nb (zig o.b) ++ rest) h3.1 h3.2
  have k4 := In.int_nb rest h4.1 h4.2
  have e2 : ((o.k.toNat : Nat) : Int) = o.k := by omega
  have e3 : ((o.u.toNat : Nat) : Int) = o.u := by omega
  unfold In.ord
  simp only [e1, k1, k2, k3, k4, e2, e3]
  rw [show (Ord.mk o.k o.u o.a o.b).chk = 0 from h]
  simp [In.fail]
theorem ords_nb (rest : List UInt8) : ∀ (v pre : List Ord), (∀ o ∈ v, o.chk = 0 ∧ o.ok) → In.ords v.length ⟨obs v ++ rest, 0⟩ pre = (⟨rest, 0⟩, pre ++ v)
  | [], pre, _ => by simp [In.ords, obs]
  | c :: v, pre, h => by
    have e1 : obs (c :: v) ++ rest = c.ob ++ (obs v ++ rest) := by simp [obs]
    rw [List.length_cons, In.ords, if_neg (by simp), e1, ord_nb _ (h c List.mem_cons_self).1 (h c List.mem_cons_self).2, ords_nb rest v (pre ++ [c]) fun m hm => h m (List.mem_cons_of_mem _ hm)]
    simp
theorem batch_nb (rest : List UInt8) {v : List Ord} (h : ∀ o ∈ v, o.chk = 0 ∧ o.ok) (hl : v.length ≤ 8) : In.batch ⟨batchB v ++ rest, 0⟩ = (⟨rest, 0⟩, v) := by
  have e1 : batchB v ++ rest = nb v.length ++ (obs v ++ rest) := by simp [batchB]
  have k1 := In.count_nb (obs v ++ rest) (n := v.length) (m := 8) (by decide) (by omega)
  have k2 := ords_nb rest v [] h
  unfold In.batch
  simp only [e1, k1, Int.toNat_natCast, k2]
  simp
/-- A play that may be read. -/
structure Ply.wf (q : Ply) : Prop where
  p : 0 ≤ q.p ∧ q.p ≤ 31
  b : ∀ o ∈ q.b, o.chk = 0 ∧ o.ok
  l : q.b.length ≤ 8
theorem ply_nb (rest : List UInt8) {q : Ply} (h : q.wf) : In.ply ⟨q.bytes ++ rest, 0⟩ = (⟨rest, 0⟩, q) := by
  obtain ⟨h1, h2, h3⟩ := h
  have e1 : q.bytes ++ rest = nb q.p.toNat ++ (batchB q.b ++ rest) := by simp [Ply.bytes]
  have k1 := In.count_nb (batchB q.b ++ rest) (n := q.p.toNat) (m := 31) (by decide) (by omega)
  have e2 : ((q.p.toNat : Nat) : Int) = q.p := by omega
  unfold In.ply
  simp only [e1, k1, batch_nb rest h2 h3, e2]
theorem plys_nb (rest : List UInt8) : ∀ (v pre : List Ply), (∀ c ∈ v, c.wf) → In.plys v.length ⟨plyB v ++ rest, 0⟩ pre = (⟨rest, 0⟩, pre ++ v)
  | [], pre, _ => by simp [In.plys, plyB]
  | c :: v, pre, h => by
    have e1 : plyB (c :: v) ++ rest = c.bytes ++ (plyB v ++ rest) := by simp [plyB]
    rw [List.length_cons, In.plys, if_neg (by simp), e1, ply_nb _ (h c List.mem_cons_self), plys_nb rest v (pre ++ [c]) fun m hm => h m (List.mem_cons_of_mem _ hm)]
    simp
structure Rec.wf (r : Rec) : Prop where
  t : 0 ≤ r.t ∧ r.t ≤ 1099511627776
  c : ∀ x ∈ r.c, x.rd
  cl : r.c.length ≤ 8
  pt : 0 ≤ r.pt ∧ r.pt ≤ 64
  pd : 0 ≤ r.pd ∧ r.pd ≤ 6
  l : ∀ x ∈ r.l, x.wf
  ll : r.l.length ≤ 32
theorem Rec.wf.rd {r : Rec} (h : r.wf) : r.rd := ⟨h.t, h.c, h.cl, h.pt, h.pd, fun x hx => ⟨(h.l x hx).p, fun o ho => ((h.l x hx).b o ho).2, (h.l x hx).l⟩, h.ll⟩
theorem rcd_nb (rest : List UInt8) {r : Rec} (h : r.wf) : In.rcd ⟨r.bytes ++ rest, 0⟩ = (⟨rest, 0⟩, r) := by
  obtain ⟨h1, h2, h3, h4, h5, h6, h7⟩ := h
  have e1 : r.bytes ++ rest = nb r.t.toNat ++ (nb r.c.length ++ (chgB r.c ++ (nb r.pt.toNat ++ (nb r.pd.toNat ++ (nb r.l.length ++ (plyB r.l ++ rest)))))) := by simp [Rec.bytes]
  have k1 := In.count_nb (nb r.c.length ++ (chgB r.c ++ (nb r.pt.toNat ++ (nb r.pd.toNat ++ (nb r.l.length ++ (plyB r.l ++ rest)))))) (n := r.t.toNat) (m := 1099511627776) (by decide) (by omega)
  have k2 := In.count_nb (chgB r.c ++ (nb r.pt.toNat ++ (nb r.pd.toNat ++ (nb r.l.length ++ (plyB r.l ++ rest))))) (n := r.c.length) (m := 8) (by decide) (by omega)
  have k3 := chgs_nb (nb r.pt.toNat ++ (nb r.pd.toNat ++ (nb r.l.length ++ (plyB r.l ++ rest)))) r.c [] h2
  have k4 := In.count_nb (nb r.pd.toNat ++ (nb r.l.length ++ (plyB r.l ++ rest))) (n := r.pt.toNat) (m := 64) (by decide) (by omega)
  have k5 := In.count_nb (nb r.l.length ++ (plyB r.l ++ rest)) (n := r.pd.toNat) (m := 6) (by decide) (by omega)
  have k6 := In.count_nb (plyB r.l ++ rest) (n := r.l.length) (m := 32) (by decide) (by omega)
  have k7 := plys_nb rest r.l [] h6
  have e2 : ((r.t.toNat : Nat) : Int) = r.t := by omega
  have e3 : ((r.pt.toNat : Nat) : Int) = r.pt := by omega
  have e4 : ((r.pd.toNat : Nat) : Int) = r.pd := by omega
  unfold In.rcd
  simp only [e1, k1, k2, Int.toNat_natCast, k3, k4, k5, k6, k7, e2, e3, e4]
  simp
theorem parse_nb {r : Rec} (h : r.wf) : rcParse r.bytes = (r, 0) := by
  have := rcd_nb [] h
  rw [List.append_nil] at this
  unfold rcParse
  rw [this]
  simp [In.fin]
/-- Like bytes, like records. -/
theorem bytes_inj {r x : Rec} (hr : r.wf) (hx : x.wf) (h : r.bytes = x.bytes) : r = x := by
  have h1 := parse_nb hr
  have h2 := parse_nb hx
  rw [h, h2] at h1
  exact (congrArg Prod.fst h1).symm

theorem goW_snoc {was : Ros} : ∀ (l : List Chg) (x y : Ros) (c : Chg), was.goW x l = (y, 0) → y.chk c = 0 → was.goW x (l ++ [c]) = (y.app c, 0)
  | [], x, y, c, h, hc => by
    simp only [Ros.goW, Prod.mk.injEq] at h
    obtain ⟨rfl, _⟩ := h
    rw [List.nil_append, Ros.goW, if_neg (by simp [hc])]
    rfl
  | d :: l, x, y, c, h, hc => by
    rw [Ros.goW] at h
    rw [List.cons_append, Ros.goW]
    split at h
    · rename_i hd
      simp only [Prod.mk.injEq] at h
      exact absurd h.2 hd
    · rename_i hd
      rw [if_neg hd]
      exact goW_snoc l _ y c h hc
structure FitI (was : Ros) (a : List Chg × Ros) : Prop where
  go : was.goW was a.1 = (a.2, 0)
  l : a.1.length ≤ 8
  rd : ∀ c ∈ a.1, c.rd
  s : a.2.s < 2 ^ 32
theorem chk_rd {r : Ros} {c : Chg} (h : r.chk c = 0) : c.rd := by
  have h1 := chk_v h
  have h2 := chk_rng h
  exact ⟨by omega, by omega, h1.2.1, h1.2.2⟩
theorem fitS_I {was : Ros} {a : List Chg × Ros} (h : FitI was a) (c : Chg) : FitI was (fitS a c) := by
  unfold fitS
  split
  · rename_i hh
    refine ⟨goW_snoc _ _ _ _ h.go hh.2, by simp; omega, fun x hx => ?_, app_lt h.s hh.2⟩
    rcases List.mem_append.1 hx with hx | hx
    · exact h.rd x hx
    · simp at hx; subst hx; exact chk_rd hh.2
  · exact h
theorem fitL_I {was : Ros} (hs : was.s < 2 ^ 32) (l : List Chg) : FitI was (fitL was l) := by
  have key : ∀ (l : List Chg) (a : List Chg × Ros), FitI was a → FitI was (l.foldl fitS a) := fun l => by
    induction l with
    | nil => intro a h; exact h
    | cons c l ih => intro a h; exact ih _ (fitS_I h c)
  exact key l _ ⟨rfl, by simp, by simp, hs⟩
theorem all_rng {r : Ros} : ∀ p ∈ r.all 32, 0 ≤ p ∧ p ≤ 31 := fun p hp => by
  have := mem_all.1 hp
  simp only [Ros.has, Bool.and_eq_true, decide_eq_true_eq] at this
  omega
theorem all_rise {r : Ros} {i j : Nat} (hj : j < (r.all 32).length) (hij : i < j) : (r.all 32)[i] < (r.all 32)[j] := by
  have hp : (r.all 32).Pairwise (· < ·) := by
    unfold Ros.all
    rw [List.pairwise_map]
    refine List.Pairwise.filter _ ?_
    refine List.Pairwise.imp (R := (· < ·)) ?_ List.pairwise_lt_range
    intro a b hab
    exact Int.ofNat_lt.2 hab
  exact List.pairwise_iff_getElem.1 hp i j (by omega) hj hij
theorem chkAll_0 : ∀ {l : List Ord}, (∀ o ∈ l, o.chk = 0) → chkAll l = 0
  | [], _ => rfl
  | o :: l, h => by
    have h1 := h o List.mem_cons_self
    rw [chkAll, if_neg (by simp [h1])]
    exact chkAll_0 fun m hm => h m (List.mem_cons_of_mem _ hm)
theorem tidy_chk (l : List Ord) : ∀ o ∈ tidy l, o.chk = 0 ∧ o.ok := fun o ho => by
  obtain ⟨d, _, rfl⟩ := List.mem_map.1 ho
  exact ⟨tidy1_chk d, tidy1_ok d⟩
theorem tidy_len8 (l : List Ord) : (tidy l).length ≤ 8 := by rw [tidy_length]; omega
theorem batchChk_0 {l : List Ord} (h : ∀ o ∈ l, o.chk = 0) (hl : l.length ≤ 8) : batchChk l = 0 := by
  unfold batchChk
  rw [if_neg (by omega)]
  exact chkAll_0 h
theorem fitP_get {A : List Int} {L : List (List Ord)} {k i : Nat} (h : i < k) : plyAt (fitP A L k) i = fitP1 A L i := by
  unfold plyAt fitP
  rw [List.getElem?_map, List.getElem?_range h]
  rfl
theorem pls_fitP (A : List Int) (L : List (List Ord)) : pls (fitP A L A.length) = A := by
  refine List.ext_getElem (by simp) fun i h1 h2 => ?_
  simp [pls, fitP, fitP1, h2]
theorem wgo_0 {l : List Ply} : ∀ (n i : Nat), (∀ j, j < n → plyChk l (i + j) = 0) → wgo l n i = 0
  | 0, _, _ => rfl
  | n + 1, i, h => by
    have h0 := h 0 (by omega)
    rw [Nat.add_zero] at h0
    rw [wgo, if_neg (by simp [h0])]
    exact wgo_0 n (i + 1) fun j hj => by
      have := h (j + 1) (by omega)
      rwa [show i + 1 + j = i + (j + 1) by omega]
theorem fitP_wchk {r : Ros} (L : List (List Ord)) : wchk (fitP (r.all 32) L (r.all 32).length) = 0 := by
  unfold wchk
  refine wgo_0 _ 0 fun j hj => ?_
  rw [fitP_length] at hj
  rw [Nat.zero_add]
  have h1 := all_rng (r := r) (r.all 32)[j] (List.getElem_mem hj)
  have hg : (r.all 32).getD j 0 = (r.all 32)[j] := by simp [hj]
  have hb : batchChk (tidy (L.getD j [])) = 0 := batchChk_0 (fun o ho => (tidy_chk _ o ho).1) (tidy_len8 _)
  unfold plyChk
  rw [fitP_get hj]
  simp only [fitP1, hg]
  rw [if_neg (by omega)]
  by_cases h0 : 0 < j
  · have hlt := all_rise (r := r) hj (show j - 1 < j by omega)
    have hg2 : (r.all 32).getD (j - 1) 0 = (r.all 32)[j - 1] := by simp [show j - 1 < (r.all 32).length by omega]
    rw [fitP_get (by omega), if_neg]
    · exact hb
    · simp only [fitP1, hg2]
      omega
  · rw [if_neg (by omega)]
    exact hb
theorem fit_ros {t : Int} {was : Ros} {cs : List Chg} {L : List (List Ord)} (hs : was.s < 2 ^ 32) : (fit t was cs L).ros was = ((fitL was (few cs)).2, 0) := by
  have h := fitL_I hs (few cs)
  have h8 := h.l
  unfold Rec.ros
  rw [if_neg (by simp only [fit]; omega)]
  exact h.go
theorem fit_chk {t : Int} {was : Ros} {cs : List Chg} {L : List (List Ord)} (hs : was.s < 2 ^ 32) : (fit t was cs L).chk t was = 0 := by
  unfold Rec.chk
  rw [fit_ros hs, if_neg (by simp [fit]), if_neg (by simp [fit]), if_neg (by simp), if_neg]
  · exact fitP_wchk L
  · exact fun hh => hh (pls_fitP _ _)
theorem fit_wf {t : Int} {was : Ros} {cs : List Chg} {L : List (List Ord)} (hs : was.s < 2 ^ 32) (ht : 0 ≤ t ∧ t ≤ 1099511627776) : (fit t was cs L).wf := by
  have h := fitL_I hs (few cs)
  refine ⟨ht, h.rd, h.l, by simp [fit], by simp [fit], fun x hx => ?_, ?_⟩
  · simp only [fit, fitP, List.mem_map, List.mem_range] at hx
    obtain ⟨i, hi, rfl⟩ := hx
    have hg : ((fitL was (few cs)).2.all 32).getD i 0 = ((fitL was (few cs)).2.all 32)[i] := by simp [hi]
    exact ⟨by simp only [fitP1, hg]; exact all_rng _ (List.getElem_mem hi), tidy_chk _, tidy_len8 _⟩
  · simp only [fit, fitP_length]
    exact (fitL was (few cs)).2.all_len 32
end Go.Proofs.YtgkhedmjkahclaaGreatDoor.TL
