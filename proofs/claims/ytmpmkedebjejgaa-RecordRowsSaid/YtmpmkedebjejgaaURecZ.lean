/- The law RecordRows, as the code runs. -/
import Derived.Test.YtmpmkedebjejgaaURecN
import Derived.Test.YtmpmkedebjejgaaURecO
import Derived.Test.YtmpmkedebjejgaaUAwk20
import Derived.Test.YtmpmkedebjejgaaUDec
namespace Go.Proofs.Ytmpmkedebjejgaa.TL
open Go
set_option linter.unusedVariables false
set_option linter.unusedSimpArgs false

def rowR (l : List Rec) : List TV := (l.map Rec.cells).flatten
@[simp] theorem rowR_nil : rowR [] = [] := rfl
@[simp] theorem rowR_cons (o : Rec) (l : List Rec) : rowR (o :: l) = o.cells ++ rowR l := rfl
@[simp] theorem rowR_length : ∀ l : List Rec, (rowR l).length = l.length * 5
  | [] => rfl
  | o :: l => by rw [rowR_cons, List.length_append, rowR_length l, List.length_cons, show o.cells.length = 5 from rfl]; omega
theorem rowR_drop : ∀ (n : Nat) (l : List Rec), (rowR l).drop (n * 5) = rowR (l.drop n)
  | 0, l => by simp
  | n + 1, [] => by simp [rowR]
  | n + 1, c :: l => by
    rw [show (n + 1) * 5 = n * 5 + 5 by omega]
    have := rowR_drop n l
    simpa [rowR, Rec.cells] using this
theorem rowR_at {l : List Rec} {k : Nat} (h : k < l.length) : List.drop (k * 5) (rowR l) = i64c l[k].t :: .isl (rowG l[k].c) l[k].c.length :: i64c l[k].pt :: i64c l[k].pd :: .isl (rowP l[k].l) l[k].l.length :: rowR (l.drop (k + 1)) := by
  rw [rowR_drop, List.drop_eq_getElem_cons h]
  rfl
theorem rowR_snoc (l : List Rec) (c : Rec) : rowR (l ++ [c]) = rowR l ++ c.cells := by simp [rowR]
theorem rowGG_at {l : List (List Chg)} {k : Nat} (h : k < l.length) : List.drop k (rowGG l) = .isl (rowG l[k]) l[k].length :: List.drop (k + 1) (rowGG l) := by
  rw [List.drop_eq_getElem_cons (by simpa [rowGG] using h)]; simp [rowGG]
@[simp] theorem rowGG_length (l : List (List Chg)) : (rowGG l).length = l.length := by simp [rowGG]
def recsB (l : List Rec) : List UInt8 := (l.map Rec.bytes).flatten
theorem recsB_snoc (l : List Rec) (c : Rec) : recsB (l ++ [c]) = recsB l ++ c.bytes := by simp [recsB]
theorem recsB_drop {l : List Rec} {j : Nat} (h : j < l.length) : recsB (l.drop j) = l[j].bytes ++ recsB (l.drop (j + 1)) := by
  rw [List.drop_eq_getElem_cons h]
  rfl
theorem rec_len {r : Rec} (h : r.wf) : r.bytes.length ≤ 2000000 := by
  have ho := h.rd.ok
  have e1 := chgB_len ho.c
  have e2 := plyB_len ho.l
  have e3 := nb_len10 (n := r.t.toNat) (by have := h.t; omega)
  have e4 := nb_len10 (n := r.c.length) (by have := h.cl; omega)
  have e5 := nb_len10 (n := r.pt.toNat) (by have := h.pt; omega)
  have e6 := nb_len10 (n := r.pd.toNat) (by have := h.pd; omega)
  have e7 := nb_len10 (n := r.l.length) (by have := h.ll; omega)
  have e8 := h.cl
  have e9 := h.ll
  simp only [Rec.bytes, List.length_append]
  omega
theorem recsB_len : ∀ {l : List Rec}, (∀ r ∈ l, r.wf) → (recsB l).length ≤ 2000000 * l.length
  | [], _ => by simp [recsB]
  | r :: l, h => by
    have h1 := rec_len (h r List.mem_cons_self)
    have h2 := recsB_len (l := l) fun m hm => h m (List.mem_cons_of_mem _ hm)
    simp only [recsB, List.map_cons, List.flatten_cons, List.length_append, List.length_cons] at h2 ⊢
    omega
theorem FitN_T (t : Int) (was : Ros) (cs : List Chg) (hs : was.s < 2 ^ 32) (he : 0 ≤ was.e) (he2 : was.e ≤ 1000000) (hcl : cs.length ≤ maxLen) :
    callT Try.prog 15 [i64c t, .agg was.cells, .isl (rowG cs) cs.length, .v (.slice none 0 0)] ⟨[], []⟩ (fun x h => x = .agg (fit t was cs []).cells ∧ h = []) := by
  have h := Fit_T t was cs [] hs he he2 hcl
  refine callT.pre (fn_of h) (CLx.nz (CLx.done ?_))
  simp [Ros.cells, u32v, i64c, rowB] at h ⊢
  exact h
theorem fitS_e {was : Ros} {a : List Chg × Ros} (h0 : 0 ≤ was.e) (h : 0 ≤ a.2.e ∧ a.2.e ≤ was.e + a.1.length) (c : Chg) : 0 ≤ (fitS a c).2.e ∧ (fitS a c).2.e ≤ was.e + (fitS a c).1.length := by
  unfold fitS
  split
  · simp only [Ros.app, List.length_append, List.length_singleton]
    omega
  · exact h
theorem fitL_e {was : Ros} (h0 : 0 ≤ was.e) (l : List Chg) : 0 ≤ (fitL was l).2.e ∧ (fitL was l).2.e ≤ was.e + (fitL was l).1.length := by
  have key : ∀ (l : List Chg) (a : List Chg × Ros), (0 ≤ a.2.e ∧ a.2.e ≤ was.e + a.1.length) → (0 ≤ (l.foldl fitS a).2.e ∧ (l.foldl fitS a).2.e ≤ was.e + (l.foldl fitS a).1.length) := fun l => by
    induction l with
    | nil => intro a h; exact h
    | cons c l ih => intro a h; exact ih _ (fitS_e h0 h c)
  exact key l _ (by simpa using h0)
/-- With another pace that may be, it may be. -/
theorem pc_chk {t : Int} {c : List Chg} {l : List Ply} {p q n : Int} {was : Ros} (h : (Rec.mk t c 0 0 l).chk n was = 0) (hp : pchk p q = 0) : (Rec.mk t c p q l).chk n was = 0 := by
  have hr : (Rec.mk t c p q l).ros was = (Rec.mk t c 0 0 l).ros was := rfl
  unfold Rec.chk at h ⊢
  rw [hr]
  simp only at h ⊢
  split at h
  · cases h
  · rename_i h1
    rw [if_neg h1, if_neg (by simp [hp])]
    rw [if_neg (by simp)] at h
    exact h

set_option maxHeartbeats 16000000 in
set_option maxRecDepth 100000 in
theorem RecordRows_T (ps : List Int) (C : List (List Chg)) (a b : Int) (hC : ∀ l ∈ C, l.length ≤ maxLen) : callT Try.prog 4 [.isl (ps.map i64c) ps.length, .isl (rowGG C) C.length, i64c a, i64c b] ⟨[], []⟩ (fun x h => x = .v (.bool true)) := by
  refine callT_of_body [0, 1, 2, 3, 8, 9, 10, 11, 12, 13, 14, 16, 18, 21, 33, 44, 58, 73, 74, 75, 76, 84] [] Try.func4 rfl (by decide) (by kernel_rfl) rfl ?_
  simp [i64c]
  refine callT_eq [] Awk20_T ?_
  have hsuf : ∀ (m : List Int) (n : Nat), m.length = n → n ≤ 40 → callT Try.prog 14 [.isl (m.map i64c) n] ⟨[], []⟩ (fun x h => x = .agg (Ros.mk (setOf m) 0).cells ∧ h = []) := fun m n h1 h2 => by
    subst h1
    exact ROf_T m (by omega)
  have ea := i64_and63 a
  have eb := i64_and255 b
  have ea2 : IntKind.i64.wrap (1 + a % 64) = 1 + a % 64 := i64_id (by omega) (by omega)
  have eb2 : (b % 256).tmod 6 = (b % 256) % 6 := Int.tmod_eq_emod_of_nonneg (by omega)
  have eb3 : IntKind.i64.wrap (b % 256 % 6) = b % 256 % 6 := i64_id (by omega) (by omega)
  have eb4 : IntKind.i64.wrap (1 + b % 256 % 6) = 1 + b % 256 % 6 := i64_id (by omega) (by omega)
  have hcases : (40 < ps.length ∧ 40 ≤ ps.length) ∨ (¬ 40 < ps.length) := by omega
  rcases hcases with ⟨hp, hp2⟩ | hp
  · have hp' : (40 : Int) < ps.length := by omega
    have hml : (ps.take 40).length = 40 := by simp; omega
    simp [hp', hp, hp2]
    rw [← List.map_take]
    generalize ps.take 40 = m at hml ⊢
    refine ⟨by omega, ?_⟩
    have hof := hsuf m 40 hml (by omega)
    have hs := setOf_lt m
    generalize setOf m = S at hs hof
    refine callT_eq [] hof ?_
    simp [Ros.cells, u32v, i64c]
    intro v9 v10
    refine ⟨Nat × List Rec × Ros × Nat × Nat, fun x => x.1 ≤ C.length ∧ x.1 ≤ 6 ∧ x.2.1.length = x.1 ∧ (∀ r ∈ x.2.1, r.wf) ∧ x.2.2.1.s < 2 ^ 32 ∧ 0 ≤ x.2.2.1.e ∧ x.2.2.1.e ≤ 8 * x.1, fun x => ⟨[(1, .isl (rowGG C) C.length), (2, i64c a), (3, i64c b), (9, .at 9 v9 0), (10, .at 10 v10 0), (11, .sl 1002 x.2.2.2.2 0 x.1), (12, .v (.int .i64 x.1))], [(9, v9, ⟨0, x.2.2.1.cells⟩), (10, v10, outB x.2.2.2.1 (recsB x.2.1).length), (1001, x.2.2.2.1, ⟨1, (recsB x.2.1).map bv⟩), (1002, x.2.2.2.2, ⟨5, rowR x.2.1⟩)]⟩, fun x => 6 - x.1, ?_, ?_⟩
    · refine SLx.nilCell 10 0 1001 1 (by decide) (by decide) rfl rfl fun u => SLx.nil 11 1002 5 (by decide) (by simp) fun u2 => SLx.fin _ ⟨(0, [], ⟨S, 0⟩, u, u2), ⟨by simp, by simp, rfl, by simp, hs, by simp, by simp⟩, rfl⟩ ?_ ?_
      · simp [i64c]
      · simp [Ros.cells, u32v, i64c, setH, recsB, outB]
    rintro ⟨k, R, now, u, ua⟩ ⟨hk, hk6, hRl, hRw, hns, hne, hne8⟩
    simp only at hk hk6 hRl hRw hns hne hne8 ⊢
    have hBl := recsB_len hRw
    by_cases g : k < C.length ∧ k < 6
    · obtain ⟨g1, g2⟩ := g
      have g2' : (k : Int) < 6 := by omega
      have hat := rowGG_at g1
      have hCk := hC C[k] (List.getElem_mem g1)
      generalize C[k] = cs at hat hCk
      have hfit := FitN_T k now cs hns hne (by omega) hCk
      have hfw := fit_wf (t := (k : Int)) (was := now) (cs := cs) (L := []) hns (by omega)
      have hfc := fit_chk (t := (k : Int)) (was := now) (cs := cs) (L := []) hns
      have hfr := fit_ros (t := (k : Int)) (was := now) (cs := cs) (L := []) hns
      have hfe := fitL_e hne (few cs)
      have hf8 := (fitL_I hns (few cs)).l
      have hfs := (fitL_I hns (few cs)).s
      have hxt : (fit (k : Int) now cs []).t = k := rfl
      have hxp : (fit (k : Int) now cs []).pt = 0 := rfl
      have hxd : (fit (k : Int) now cs []).pd = 0 := rfl
      generalize fit (k : Int) now cs [] = X at *
      generalize (fitL now (few cs)).2 = N at *
      generalize (fitL now (few cs)).1.length = n8 at *
      obtain ⟨t, c, pt, pd, l⟩ := X
      simp only at hxt hxp hxd
      subst hxt hxp hxd
      have e1 : IntKind.i64.wrap ((k : Int) + 1) = ((k + 1 : Nat) : Int) := by rw [i64_id (by omega) (by omega)]; rfl
      simp [g1, g2, g2', hat, i64c]
      refine drawT_cut (α := Nat) (fun _ => True) (fun x => ⟨[(1, .isl (rowGG C) C.length), (2, i64c a), (3, i64c b), (9, .at 9 v9 0), (10, .at 10 v10 0), (11, .sl 1002 ua 0 k), (12, .v (.int .i64 k)), (13, .at 13 x 0)], [(9, v9, ⟨0, now.cells⟩), (10, v10, outB u (recsB R).length), (1001, u, ⟨1, (recsB R).map bv⟩), (1002, ua, ⟨5, rowR R⟩), (13, x, ⟨0, (Rec.mk k c 0 0 l).cells⟩)]⟩) ?_ ?_
      · refine draw_h (pl [0, 1, 2, 3, 4, 5] (.alt 6 (pl [7] .nil) 7 (pl [6] .nil))) 8 [(6, [0, 1, 2, 3, 4, 5]), (7, [])] (by kernel_rfl) (by kernel_rfl) (by kernel_rfl) (by kernel_rfl) ?_
        simp [Rec.cells, Ros.cells, u32v, i64c, hat, g1]
        refine ⟨?_, ?_⟩
        · refine callT_eq [] hfit ?_
          simp [Rec.cells, Ros.cells, u32v, i64c, hat, g1]
          intro v13
          exact SLx.at v13 trivial (by simp [i64c]) (by simp [Rec.cells, Ros.cells, u32v, i64c])
        · intro v13
          refine callT_eq [] hfit ?_
          simp [Rec.cells, Ros.cells, u32v, i64c, hat, g1]
          exact SLx.at v13 trivial (by simp [i64c]) (by simp [Rec.cells, Ros.cells, u32v, i64c])
      rintro v13 -
      have hWl : (recsB R).length ≤ 12000000 := by omega
      have htk : List.take (k * 5) (rowR R) = rowR R := List.take_of_length_le (by simp; omega)
      have hdr : List.drop (k * 5 + 5) (rowR R) = [] := List.drop_of_length_le (by simp; omega)
      by_cases hk1 : k = 1
      · subst hk1
        simp only [Nat.one_mul] at htk hdr
        have hp0 : pchk (1 + a % 64) (1 + b % 256 % 6) = 0 := by unfold pchk; rw [if_neg (by omega)]
        have hYw : (Rec.mk 1 c (1 + a % 64) (1 + b % 256 % 6) l).wf := ⟨hfw.t, hfw.c, hfw.cl, by simp only; omega, by simp only; omega, hfw.l, hfw.ll⟩
        have hYc : (Rec.mk 1 c (1 + a % 64) (1 + b % 256 % 6) l).chk 1 now = 0 := pc_chk (t := 1) (n := 1) hfc hp0
        have hYr : (Rec.mk 1 c (1 + a % 64) (1 + b % 256 % 6) l).ros now = (N, 0) := hfr
        simp [Rec.cells, Ros.cells, u32v, i64c, ea, eb, ea2, eb2, eb3, eb4]
        have kc : c.length ≤ 1000000 := by have := hYw.cl; simp only at this; omega
        have kl : l.length ≤ 1000000 := by have := hYw.ll; simp only at this; omega
        have kv : ∀ q ∈ c, q.v.length ≤ 1000000 := fun q hq => by have := (hYw.c q hq).l; omega
        have kb : ∀ q ∈ l, q.b.length ≤ 1000000 := fun q hq => by have := (hYw.l q hq).l; omega
        have hC1 := RcChk_T ⟨1, c, 1 + a % 64, 1 + b % 256 % 6, l⟩ 1 now hns kv kc hne (by omega) kl kb
        rw [hYc] at hC1
        have hC2 := RcRos_T ⟨1, c, 1 + a % 64, 1 + b % 256 % 6, l⟩ now hns kv kc hne (by omega)
        rw [hYr] at hC2
        have hC3 := RcPut_T v10 u (recsB R) ⟨1, c, 1 + a % 64, 1 + b % 256 % 6, l⟩ hYw.rd.ok (by omega)
        refine callT_eq [] hC1 ?_
        simp [Rec.cells, Ros.cells, u32v, i64c]
        refine callT_eq [] hC2 ?_
        simp [Rec.cells, Ros.cells, u32v, i64c]
        refine callT_ex [(1000, 10), (1001, 1001)] hC3 ?_
        simp [Rec.cells, Ros.cells, u32v, i64c]
        intro u3 v69
        repeat refine ⟨by omega, ?_⟩
        intro ua3
        refine SLx.again (1 + 1, R ++ [⟨1, c, 1 + a % 64, 1 + b % 256 % 6, l⟩], N, u3, ua3) ⟨by simp only; omega, by simp only; omega, by simp [hRl], fun r hr => ?_, hfs, by simp only; omega, by simp only; omega⟩ (by simp only; omega) (by simp [e1, i64c]; exact i64_id (by omega) (by omega)) ?_
        · rcases List.mem_append.1 hr with hr | hr
          · exact hRw r hr
          · simp at hr
            subst hr
            exact hYw
        · simp [rowR_snoc, recsB_snoc, Rec.cells, Ros.cells, u32v, i64c, outB, htk, hdr, hRl]
      · have hk1' : ¬ (k : Int) = 1 := by omega
        have hYw := hfw
        have hYc := hfc
        have hYr := hfr
        simp [Rec.cells, Ros.cells, u32v, i64c, hk1', hk1]
        have kc : c.length ≤ 1000000 := by have := hYw.cl; simp only at this; omega
        have kl : l.length ≤ 1000000 := by have := hYw.ll; simp only at this; omega
        have kv : ∀ q ∈ c, q.v.length ≤ 1000000 := fun q hq => by have := (hYw.c q hq).l; omega
        have kb : ∀ q ∈ l, q.b.length ≤ 1000000 := fun q hq => by have := (hYw.l q hq).l; omega
        have hC1 := RcChk_T ⟨k, c, 0, 0, l⟩ k now hns kv kc hne (by omega) kl kb
        rw [hYc] at hC1
        have hC2 := RcRos_T ⟨k, c, 0, 0, l⟩ now hns kv kc hne (by omega)
        rw [hYr] at hC2
        have hC3 := RcPut_T v10 u (recsB R) ⟨k, c, 0, 0, l⟩ hYw.rd.ok (by omega)
        refine callT_eq [] hC1 ?_
        simp [Rec.cells, Ros.cells, u32v, i64c]
        refine callT_eq [] hC2 ?_
        simp [Rec.cells, Ros.cells, u32v, i64c]
        refine callT_ex [(1000, 10), (1001, 1001)] hC3 ?_
        simp [Rec.cells, Ros.cells, u32v, i64c]
        intro u3 v69
        repeat refine ⟨by omega, ?_⟩
        intro ua3
        refine SLx.again (k + 1, R ++ [⟨k, c, 0, 0, l⟩], N, u3, ua3) ⟨by simp only; omega, by simp only; omega, by simp [hRl], fun r hr => ?_, hfs, by simp only; omega, by simp only; omega⟩ (by simp only; omega) (by simp [e1, i64c]) ?_
        · rcases List.mem_append.1 hr with hr | hr
          · exact hRw r hr
          · simp at hr
            subst hr
            exact hYw
        · simp [rowR_snoc, recsB_snoc, Rec.cells, Ros.cells, u32v, i64c, outB, htk, hdr, hRl]
    · have hg : (k < C.length ∧ ¬ k < 6 ∧ ¬ (k : Int) < 6) ∨ ¬ k < C.length := by omega
      rcases hg with ⟨g1, g2, g3⟩ | g1
      · simp [g1, g2, g3, i64c]
        refine callT_eq [(1000, 10), (1001, 1001)] (OutText_T v10 u (recsB R)) ?_
        simp [i64c]
        refine callT_ex [(5, 72)] (Open_T (recsB R)) ?_
        simp [i64c]
        intro v72
        refine loopT_of Nat (fun j => j ≤ k) (fun j => ⟨[(14, .at 72 v72 0), (73, .sl 1002 ua 0 k), (74, .v (.int .i64 k)), (75, .v (.int .i64 j))], [(72, v72, inB ⟨recsB (R.drop j), 0⟩), (1002, ua, ⟨5, rowR R⟩)]⟩) (fun j => k - j) 0 (by simp) (by simp [i64c]) (by simp) ?_
        intro j hj
        by_cases g4 : j < k
        · have hjR : j < R.length := by omega
          have hat := rowR_at hjR
          have hjw := hRw R[j] (List.getElem_mem hjR)
          have hB : recsB (R.drop j) = R[j].bytes ++ recsB (R.drop (j + 1)) := recsB_drop hjR
          have hrd := RcRead_T v72 ⟨recsB (R.drop j), 0⟩
          rw [hB, rcd_nb _ hjw, ← hB] at hrd
          generalize R[j] = r at hat hjw hrd hB
          have e2 : IntKind.i64.wrap ((j : Int) + 1) = ((j + 1 : Nat) : Int) := by rw [i64_id (by omega) (by omega)]; rfl
          have htold := RcTold_T r (by have := hjw.cl; omega) (by have := hjw.ll; omega) (fun q hq => by have := (hjw.l q hq).l; omega)
          have hsame := RcSame_T r r (by have := hjw.cl; omega) (by have := hjw.ll; omega) (fun q hq => by have := (hjw.c q hq).l; omega) (fun q hq => by have := (hjw.l q hq).l; omega)
          simp [g4, hat, i64c]
          intro v16
          refine draw_g [0, 2, 1] 3 [(1, [0])] (by kernel_rfl) (by kernel_rfl) (by kernel_rfl) ?_
          simp [i64c]
          refine callT_eq [(1000, 72)] hrd ?_
          simp [Rec.cells, i64c]
          refine callT_eq [] htold ?_
          simp [Rec.cells, i64c]
          refine callT_eq [] hsame ?_
          simp [Rec.cells, i64c]
          exact SLx.again (j + 1) (by omega) (by omega) (by simp [e2, i64c]) (by simp)
        · have : j = k := by omega
          subst this
          rw [List.drop_of_length_le (by omega : R.length ≤ j)]
          simp [i64c]
          refine callT_eq [(1000, 72)] (End_T v72 ⟨recsB [], 0⟩) ?_
          simp [recsB, In.fin]
      · simp [g1, i64c]
        refine callT_eq [(1000, 10), (1001, 1001)] (OutText_T v10 u (recsB R)) ?_
        simp [i64c]
        refine callT_ex [(5, 72)] (Open_T (recsB R)) ?_
        simp [i64c]
        intro v72
        refine loopT_of Nat (fun j => j ≤ k) (fun j => ⟨[(14, .at 72 v72 0), (73, .sl 1002 ua 0 k), (74, .v (.int .i64 k)), (75, .v (.int .i64 j))], [(72, v72, inB ⟨recsB (R.drop j), 0⟩), (1002, ua, ⟨5, rowR R⟩)]⟩) (fun j => k - j) 0 (by simp) (by simp [i64c]) (by simp) ?_
        intro j hj
        by_cases g4 : j < k
        · have hjR : j < R.length := by omega
          have hat := rowR_at hjR
          have hjw := hRw R[j] (List.getElem_mem hjR)
          have hB : recsB (R.drop j) = R[j].bytes ++ recsB (R.drop (j + 1)) := recsB_drop hjR
          have hrd := RcRead_T v72 ⟨recsB (R.drop j), 0⟩
          rw [hB, rcd_nb _ hjw, ← hB] at hrd
          generalize R[j] = r at hat hjw hrd hB
          have e2 : IntKind.i64.wrap ((j : Int) + 1) = ((j + 1 : Nat) : Int) := by rw [i64_id (by omega) (by omega)]; rfl
          have htold := RcTold_T r (by have := hjw.cl; omega) (by have := hjw.ll; omega) (fun q hq => by have := (hjw.l q hq).l; omega)
          have hsame := RcSame_T r r (by have := hjw.cl; omega) (by have := hjw.ll; omega) (fun q hq => by have := (hjw.c q hq).l; omega) (fun q hq => by have := (hjw.l q hq).l; omega)
          simp [g4, hat, i64c]
          intro v16
          refine draw_g [0, 2, 1] 3 [(1, [0])] (by kernel_rfl) (by kernel_rfl) (by kernel_rfl) ?_
          simp [i64c]
          refine callT_eq [(1000, 72)] hrd ?_
          simp [Rec.cells, i64c]
          refine callT_eq [] htold ?_
          simp [Rec.cells, i64c]
          refine callT_eq [] hsame ?_
          simp [Rec.cells, i64c]
          exact SLx.again (j + 1) (by omega) (by omega) (by simp [e2, i64c]) (by simp)
        · have : j = k := by omega
          subst this
          rw [List.drop_of_length_le (by omega : R.length ≤ j)]
          simp [i64c]
          refine callT_eq [(1000, 72)] (End_T v72 ⟨recsB [], 0⟩) ?_
          simp [recsB, In.fin]
  · have hp' : ¬ (40 : Int) < ps.length := by omega
    simp [hp', hp]
    have hof := hsuf ps ps.length rfl (by omega)
    generalize ps.length = n at hof ⊢
    generalize hm : ps = m at hof ⊢
    have hs := setOf_lt m
    generalize setOf m = S at hs hof
    refine callT_eq [] hof ?_
    simp [Ros.cells, u32v, i64c]
    intro v9 v10
    refine ⟨Nat × List Rec × Ros × Nat × Nat, fun x => x.1 ≤ C.length ∧ x.1 ≤ 6 ∧ x.2.1.length = x.1 ∧ (∀ r ∈ x.2.1, r.wf) ∧ x.2.2.1.s < 2 ^ 32 ∧ 0 ≤ x.2.2.1.e ∧ x.2.2.1.e ≤ 8 * x.1, fun x => ⟨[(1, .isl (rowGG C) C.length), (2, i64c a), (3, i64c b), (9, .at 9 v9 0), (10, .at 10 v10 0), (11, .sl 1002 x.2.2.2.2 0 x.1), (12, .v (.int .i64 x.1))], [(9, v9, ⟨0, x.2.2.1.cells⟩), (10, v10, outB x.2.2.2.1 (recsB x.2.1).length), (1001, x.2.2.2.1, ⟨1, (recsB x.2.1).map bv⟩), (1002, x.2.2.2.2, ⟨5, rowR x.2.1⟩)]⟩, fun x => 6 - x.1, ?_, ?_⟩
    · refine SLx.nilCell 10 0 1001 1 (by decide) (by decide) rfl rfl fun u => SLx.nil 11 1002 5 (by decide) (by simp) fun u2 => SLx.fin _ ⟨(0, [], ⟨S, 0⟩, u, u2), ⟨by simp, by simp, rfl, by simp, hs, by simp, by simp⟩, rfl⟩ ?_ ?_
      · simp [i64c]
      · simp [Ros.cells, u32v, i64c, setH, recsB, outB]
    rintro ⟨k, R, now, u, ua⟩ ⟨hk, hk6, hRl, hRw, hns, hne, hne8⟩
    simp only at hk hk6 hRl hRw hns hne hne8 ⊢
    have hBl := recsB_len hRw
    by_cases g : k < C.length ∧ k < 6
    · obtain ⟨g1, g2⟩ := g
      have g2' : (k : Int) < 6 := by omega
      have hat := rowGG_at g1
      have hCk := hC C[k] (List.getElem_mem g1)
      generalize C[k] = cs at hat hCk
      have hfit := FitN_T k now cs hns hne (by omega) hCk
      have hfw := fit_wf (t := (k : Int)) (was := now) (cs := cs) (L := []) hns (by omega)
      have hfc := fit_chk (t := (k : Int)) (was := now) (cs := cs) (L := []) hns
      have hfr := fit_ros (t := (k : Int)) (was := now) (cs := cs) (L := []) hns
      have hfe := fitL_e hne (few cs)
      have hf8 := (fitL_I hns (few cs)).l
      have hfs := (fitL_I hns (few cs)).s
      have hxt : (fit (k : Int) now cs []).t = k := rfl
      have hxp : (fit (k : Int) now cs []).pt = 0 := rfl
      have hxd : (fit (k : Int) now cs []).pd = 0 := rfl
      generalize fit (k : Int) now cs [] = X at *
      generalize (fitL now (few cs)).2 = N at *
      generalize (fitL now (few cs)).1.length = n8 at *
      obtain ⟨t, c, pt, pd, l⟩ := X
      simp only at hxt hxp hxd
      subst hxt hxp hxd
      have e1 : IntKind.i64.wrap ((k : Int) + 1) = ((k + 1 : Nat) : Int) := by rw [i64_id (by omega) (by omega)]; rfl
      simp [g1, g2, g2', hat, i64c]
      refine drawT_cut (α := Nat) (fun _ => True) (fun x => ⟨[(1, .isl (rowGG C) C.length), (2, i64c a), (3, i64c b), (9, .at 9 v9 0), (10, .at 10 v10 0), (11, .sl 1002 ua 0 k), (12, .v (.int .i64 k)), (13, .at 13 x 0)], [(9, v9, ⟨0, now.cells⟩), (10, v10, outB u (recsB R).length), (1001, u, ⟨1, (recsB R).map bv⟩), (1002, ua, ⟨5, rowR R⟩), (13, x, ⟨0, (Rec.mk k c 0 0 l).cells⟩)]⟩) ?_ ?_
      · refine draw_h (pl [0, 1, 2, 3, 4, 5] (.alt 6 (pl [7] .nil) 7 (pl [6] .nil))) 8 [(6, [0, 1, 2, 3, 4, 5]), (7, [])] (by kernel_rfl) (by kernel_rfl) (by kernel_rfl) (by kernel_rfl) ?_
        simp [Rec.cells, Ros.cells, u32v, i64c, hat, g1]
        refine ⟨?_, ?_⟩
        · refine callT_eq [] hfit ?_
          simp [Rec.cells, Ros.cells, u32v, i64c, hat, g1]
          intro v13
          exact SLx.at v13 trivial (by simp [i64c]) (by simp [Rec.cells, Ros.cells, u32v, i64c])
        · intro v13
          refine callT_eq [] hfit ?_
          simp [Rec.cells, Ros.cells, u32v, i64c, hat, g1]
          exact SLx.at v13 trivial (by simp [i64c]) (by simp [Rec.cells, Ros.cells, u32v, i64c])
      rintro v13 -
      have hWl : (recsB R).length ≤ 12000000 := by omega
      have htk : List.take (k * 5) (rowR R) = rowR R := List.take_of_length_le (by simp; omega)
      have hdr : List.drop (k * 5 + 5) (rowR R) = [] := List.drop_of_length_le (by simp; omega)
      by_cases hk1 : k = 1
      · subst hk1
        simp only [Nat.one_mul] at htk hdr
        have hp0 : pchk (1 + a % 64) (1 + b % 256 % 6) = 0 := by unfold pchk; rw [if_neg (by omega)]
        have hYw : (Rec.mk 1 c (1 + a % 64) (1 + b % 256 % 6) l).wf := ⟨hfw.t, hfw.c, hfw.cl, by simp only; omega, by simp only; omega, hfw.l, hfw.ll⟩
        have hYc : (Rec.mk 1 c (1 + a % 64) (1 + b % 256 % 6) l).chk 1 now = 0 := pc_chk (t := 1) (n := 1) hfc hp0
        have hYr : (Rec.mk 1 c (1 + a % 64) (1 + b % 256 % 6) l).ros now = (N, 0) := hfr
        simp [Rec.cells, Ros.cells, u32v, i64c, ea, eb, ea2, eb2, eb3, eb4]
        have kc : c.length ≤ 1000000 := by have := hYw.cl; simp only at this; omega
        have kl : l.length ≤ 1000000 := by have := hYw.ll; simp only at this; omega
        have kv : ∀ q ∈ c, q.v.length ≤ 1000000 := fun q hq => by have := (hYw.c q hq).l; omega
        have kb : ∀ q ∈ l, q.b.length ≤ 1000000 := fun q hq => by have := (hYw.l q hq).l; omega
        have hC1 := RcChk_T ⟨1, c, 1 + a % 64, 1 + b % 256 % 6, l⟩ 1 now hns kv kc hne (by omega) kl kb
        rw [hYc] at hC1
        have hC2 := RcRos_T ⟨1, c, 1 + a % 64, 1 + b % 256 % 6, l⟩ now hns kv kc hne (by omega)
        rw [hYr] at hC2
        have hC3 := RcPut_T v10 u (recsB R) ⟨1, c, 1 + a % 64, 1 + b % 256 % 6, l⟩ hYw.rd.ok (by omega)
        refine callT_eq [] hC1 ?_
        simp [Rec.cells, Ros.cells, u32v, i64c]
        refine callT_eq [] hC2 ?_
        simp [Rec.cells, Ros.cells, u32v, i64c]
        refine callT_ex [(1000, 10), (1001, 1001)] hC3 ?_
        simp [Rec.cells, Ros.cells, u32v, i64c]
        intro u3 v69
        repeat refine ⟨by omega, ?_⟩
        intro ua3
        refine SLx.again (1 + 1, R ++ [⟨1, c, 1 + a % 64, 1 + b % 256 % 6, l⟩], N, u3, ua3) ⟨by simp only; omega, by simp only; omega, by simp [hRl], fun r hr => ?_, hfs, by simp only; omega, by simp only; omega⟩ (by simp only; omega) (by simp [e1, i64c]; exact i64_id (by omega) (by omega)) ?_
        · rcases List.mem_append.1 hr with hr | hr
          · exact hRw r hr
          · simp at hr
            subst hr
            exact hYw
        · simp [rowR_snoc, recsB_snoc, Rec.cells, Ros.cells, u32v, i64c, outB, htk, hdr, hRl]
      · have hk1' : ¬ (k : Int) = 1 := by omega
        have hYw := hfw
        have hYc := hfc
        have hYr := hfr
        simp [Rec.cells, Ros.cells, u32v, i64c, hk1', hk1]
        have kc : c.length ≤ 1000000 := by have := hYw.cl; simp only at this; omega
        have kl : l.length ≤ 1000000 := by have := hYw.ll; simp only at this; omega
        have kv : ∀ q ∈ c, q.v.length ≤ 1000000 := fun q hq => by have := (hYw.c q hq).l; omega
        have kb : ∀ q ∈ l, q.b.length ≤ 1000000 := fun q hq => by have := (hYw.l q hq).l; omega
        have hC1 := RcChk_T ⟨k, c, 0, 0, l⟩ k now hns kv kc hne (by omega) kl kb
        rw [hYc] at hC1
        have hC2 := RcRos_T ⟨k, c, 0, 0, l⟩ now hns kv kc hne (by omega)
        rw [hYr] at hC2
        have hC3 := RcPut_T v10 u (recsB R) ⟨k, c, 0, 0, l⟩ hYw.rd.ok (by omega)
        refine callT_eq [] hC1 ?_
        simp [Rec.cells, Ros.cells, u32v, i64c]
        refine callT_eq [] hC2 ?_
        simp [Rec.cells, Ros.cells, u32v, i64c]
        refine callT_ex [(1000, 10), (1001, 1001)] hC3 ?_
        simp [Rec.cells, Ros.cells, u32v, i64c]
        intro u3 v69
        repeat refine ⟨by omega, ?_⟩
        intro ua3
        refine SLx.again (k + 1, R ++ [⟨k, c, 0, 0, l⟩], N, u3, ua3) ⟨by simp only; omega, by simp only; omega, by simp [hRl], fun r hr => ?_, hfs, by simp only; omega, by simp only; omega⟩ (by simp only; omega) (by simp [e1, i64c]) ?_
        · rcases List.mem_append.1 hr with hr | hr
          · exact hRw r hr
          · simp at hr
            subst hr
            exact hYw
        · simp [rowR_snoc, recsB_snoc, Rec.cells, Ros.cells, u32v, i64c, outB, htk, hdr, hRl]
    · have hg : (k < C.length ∧ ¬ k < 6 ∧ ¬ (k : Int) < 6) ∨ ¬ k < C.length := by omega
      rcases hg with ⟨g1, g2, g3⟩ | g1
      · simp [g1, g2, g3, i64c]
        refine callT_eq [(1000, 10), (1001, 1001)] (OutText_T v10 u (recsB R)) ?_
        simp [i64c]
        refine callT_ex [(5, 72)] (Open_T (recsB R)) ?_
        simp [i64c]
        intro v72
        refine loopT_of Nat (fun j => j ≤ k) (fun j => ⟨[(14, .at 72 v72 0), (73, .sl 1002 ua 0 k), (74, .v (.int .i64 k)), (75, .v (.int .i64 j))], [(72, v72, inB ⟨recsB (R.drop j), 0⟩), (1002, ua, ⟨5, rowR R⟩)]⟩) (fun j => k - j) 0 (by simp) (by simp [i64c]) (by simp) ?_
        intro j hj
        by_cases g4 : j < k
        · have hjR : j < R.length := by omega
          have hat := rowR_at hjR
          have hjw := hRw R[j] (List.getElem_mem hjR)
          have hB : recsB (R.drop j) = R[j].bytes ++ recsB (R.drop (j + 1)) := recsB_drop hjR
          have hrd := RcRead_T v72 ⟨recsB (R.drop j), 0⟩
          rw [hB, rcd_nb _ hjw, ← hB] at hrd
          generalize R[j] = r at hat hjw hrd hB
          have e2 : IntKind.i64.wrap ((j : Int) + 1) = ((j + 1 : Nat) : Int) := by rw [i64_id (by omega) (by omega)]; rfl
          have htold := RcTold_T r (by have := hjw.cl; omega) (by have := hjw.ll; omega) (fun q hq => by have := (hjw.l q hq).l; omega)
          have hsame := RcSame_T r r (by have := hjw.cl; omega) (by have := hjw.ll; omega) (fun q hq => by have := (hjw.c q hq).l; omega) (fun q hq => by have := (hjw.l q hq).l; omega)
          simp [g4, hat, i64c]
          intro v16
          refine draw_g [0, 2, 1] 3 [(1, [0])] (by kernel_rfl) (by kernel_rfl) (by kernel_rfl) ?_
          simp [i64c]
          refine callT_eq [(1000, 72)] hrd ?_
          simp [Rec.cells, i64c]
          refine callT_eq [] htold ?_
          simp [Rec.cells, i64c]
          refine callT_eq [] hsame ?_
          simp [Rec.cells, i64c]
          exact SLx.again (j + 1) (by omega) (by omega) (by simp [e2, i64c]) (by simp)
        · have : j = k := by omega
          subst this
          rw [List.drop_of_length_le (by omega : R.length ≤ j)]
          simp [i64c]
          refine callT_eq [(1000, 72)] (End_T v72 ⟨recsB [], 0⟩) ?_
          simp [recsB, In.fin]
      · simp [g1, i64c]
        refine callT_eq [(1000, 10), (1001, 1001)] (OutText_T v10 u (recsB R)) ?_
        simp [i64c]
        refine callT_ex [(5, 72)] (Open_T (recsB R)) ?_
        simp [i64c]
        intro v72
        refine loopT_of Nat (fun j => j ≤ k) (fun j => ⟨[(14, .at 72 v72 0), (73, .sl 1002 ua 0 k), (74, .v (.int .i64 k)), (75, .v (.int .i64 j))], [(72, v72, inB ⟨recsB (R.drop j), 0⟩), (1002, ua, ⟨5, rowR R⟩)]⟩) (fun j => k - j) 0 (by simp) (by simp [i64c]) (by simp) ?_
        intro j hj
        by_cases g4 : j < k
        · have hjR : j < R.length := by omega
          have hat := rowR_at hjR
          have hjw := hRw R[j] (List.getElem_mem hjR)
          have hB : recsB (R.drop j) = R[j].bytes ++ recsB (R.drop (j + 1)) := recsB_drop hjR
          have hrd := RcRead_T v72 ⟨recsB (R.drop j), 0⟩
          rw [hB, rcd_nb _ hjw, ← hB] at hrd
          generalize R[j] = r at hat hjw hrd hB
          have e2 : IntKind.i64.wrap ((j : Int) + 1) = ((j + 1 : Nat) : Int) := by rw [i64_id (by omega) (by omega)]; rfl
          have htold := RcTold_T r (by have := hjw.cl; omega) (by have := hjw.ll; omega) (fun q hq => by have := (hjw.l q hq).l; omega)
          have hsame := RcSame_T r r (by have := hjw.cl; omega) (by have := hjw.ll; omega) (fun q hq => by have := (hjw.c q hq).l; omega) (fun q hq => by have := (hjw.l q hq).l; omega)
          simp [g4, hat, i64c]
          intro v16
          refine draw_g [0, 2, 1] 3 [(1, [0])] (by kernel_rfl) (by kernel_rfl) (by kernel_rfl) ?_
          simp [i64c]
          refine callT_eq [(1000, 72)] hrd ?_
          simp [Rec.cells, i64c]
          refine callT_eq [] htold ?_
          simp [Rec.cells, i64c]
          refine callT_eq [] hsame ?_
          simp [Rec.cells, i64c]
          exact SLx.again (j + 1) (by omega) (by omega) (by simp [e2, i64c]) (by simp)
        · have : j = k := by omega
          subst this
          rw [List.drop_of_length_le (by omega : R.length ≤ j)]
          simp [i64c]
          refine callT_eq [(1000, 72)] (End_T v72 ⟨recsB [], 0⟩) ?_
          simp [recsB, In.fin]
end Go.Proofs.Ytmpmkedebjejgaa.TL
