/- The law PeerHashes, as the code runs. -/
import Derived.Test.YtnkdkajllmopaaaGreatUPe
namespace Go.Proofs.YtnkdkajllmopaaaGreat.TL
open Go
set_option linter.unusedVariables false
set_option linter.unusedSimpArgs false

def wof (p : Int) (l : List Chg) : List Chg := l.filter fun c => decide (c.p ≠ p)
theorem wof_snoc (p : Int) (l : List Chg) (c : Chg) : wof p (l ++ [c]) = if c.p = p then wof p l else wof p l ++ [c] := by
  unfold wof
  rw [List.filter_append]
  by_cases h : c.p = p <;> simp [h]
theorem wof_le (p : Int) (l : List Chg) : (wof p l).length ≤ l.length := List.length_filter_le _ _
@[simp] theorem wof_nil (p : Int) : wof p [] = [] := rfl
def Stp.wo (x : Stp) (p : Int) : Stp := { x with c := wof p x.c }
set_option maxHeartbeats 1000000 in
set_option maxRecDepth 100000 in
theorem Without_T (x : Stp) (p : Int) (hc : x.c.length * 40 ≤ 140737488351232) : callT Tryz.prog 12 [.agg x.cells, i64c p] ⟨[], []⟩ (fun r h => r = .agg (x.wo p).cells ∧ h = []) := by
  refine callT.mono (K := fun r h => ∃ u, r = .agg [.sl 1001 u 0 (x.wo p).c.length, .v (.bool x.o), i64c x.a, i64c x.b, .isl (rowB x.l) x.l.length, i64c x.t] ∧ h = [(1001, u, ⟨3, rowG (x.wo p).c⟩)]) ?_ fun r h hh => ?_
  · refine callT_of_body [0, 1, 2, 4, 5, 7, 9, 10, 11, 12, 18] [1001] Tryz.func12 rfl (by decide) (by kernel_rfl) rfl ?_
    obtain ⟨xc, xo, xa, xb, xl, xt⟩ := x
    simp only [Stp.wo] at hc ⊢
    simp [Stp.cells, i64c]
    intro v2 v4
    refine ⟨Nat × Nat, fun y => y.1 ≤ xc.length, fun y => ⟨[(1, i64c p), (2, .at 2 v2 0), (4, .at 4 v4 0), (5, .sl 1001 y.2 0 (wof p (xc.take y.1)).length), (9, .isl (rowG xc) xc.length), (10, i64c xc.length), (11, i64c y.1)],
      [(2, v2, ⟨0, [.isl (rowG xc) xc.length, .v (.bool xo), i64c xa, i64c xb, .isl (rowB xl) xl.length, i64c xt]⟩), (4, v4, ⟨0, [.v (.slice none 0 0), .v (.bool false), i64c 0, i64c 0, .v (.slice none 0 0), i64c 0]⟩), (1001, y.2, ⟨3, rowG (wof p (xc.take y.1))⟩)]⟩, fun y => xc.length - y.1, ?_, ?_⟩
    · refine SLx.nil 5 1001 3 (by decide) rfl fun u => SLx.fin _ ⟨(0, u), by simp, rfl⟩ (by simp [i64c]) (by simp [i64c])
    rintro ⟨k, u⟩ hk
    simp only at hk ⊢
    by_cases g : k < xc.length
    · have hat := rowG_at g
      have hts : xc.take (k + 1) = xc.take k ++ [xc[k]] := List.take_succ_eq_append_getElem g
      have hfl : (wof p (xc.take k)).length ≤ k := Nat.le_trans (wof_le _ _) (by simp; omega)
      have e1 : IntKind.i64.wrap ((k : Int) + 1) = ((k + 1 : Nat) : Int) := by rw [i64_id (by omega) (by omega)]; rfl
      have g' : (k : Int) < xc.length := by omega
      generalize xc[k] = c at hat hts
      have hfs := wof_snoc p (xc.take k) c
      rw [← hts] at hfs
      generalize wof p (xc.take k) = Q at hfs hfl
      by_cases hp : c.p = p
      · rw [if_pos hp] at hfs
        simp [g, g', hat, i64c, Chg.cells, hp]
        intro v7
        exact SLx.again (k + 1, u) (by simp only; omega) (by simp only; omega) (by simp [i64c, e1, hfs]) (by simp [i64c, hfs])
      · rw [if_neg hp] at hfs
        simp [g, g', hat, i64c, Chg.cells, hp]
        refine fun v7 v21 => ⟨by omega, by omega, fun u2 => ?_⟩
        exact SLx.again (k + 1, u2) (by simp only; omega) (by simp only; omega) (by simp [i64c, e1, hfs]) (by simp [i64c, hfs, rowG_snoc, rowG_tk, Chg.cells])
    · have hkl : k = xc.length := by omega
      subst hkl
      simp [i64c, Stp.cells]
  · obtain ⟨u, rfl, rfl⟩ := hh
    refine VLx.frz 1001 rfl (VLx.done ?_)
    simp [Stp.cells, Stp.wo, i64c, rowG_tk]

theorem mem_fitF : ∀ (l : List Chg) (a : List Chg × Ros) (c : Chg), c ∈ (l.foldl fitS a).1 → c ∈ a.1 ∨ c ∈ l
  | [], a, c, h => .inl h
  | d :: l, a, c, h => by
    rcases mem_fitF l (fitS a d) c h with h | h
    · unfold fitS at h
      split at h
      · rcases List.mem_append.1 h with h | h
        · exact .inl h
        · exact .inr (by rw [List.mem_singleton.1 h]; exact List.mem_cons_self)
      · exact .inl h
    · exact .inr (List.mem_cons_of_mem _ h)
theorem mkR_c (F : Fd) (x : Stp) : (mkR F x).c = (fitL F.r (few x.c)).1 := by
  have h1 : ∀ r : Rec, (mkA x r).c = r.c := fun r => by unfold mkA; split <;> rfl
  have h2 : ∀ r : Rec, (mkB x r).c = r.c := fun r => by
    unfold mkB
    split
    · rfl
    split
    · rfl
    split <;> rfl
  unfold mkR
  rw [h2, h1]
  rfl
theorem wo_ne (F : Fd) (x : Stp) (p : Int) : ∀ c ∈ (mkR F (x.wo p)).c, c.p ≠ p := fun c hc => by
  rw [mkR_c] at hc
  rcases mem_fitF _ _ _ hc with h | h
  · cases h
  · obtain ⟨d, hd, rfl⟩ := List.mem_map.1 h
    have h2 := (List.mem_filter.1 (List.mem_of_mem_take hd)).2
    simpa [few1] using h2
theorem app_has {r : Ros} {c : Chg} {p : Int} (hp : 0 ≤ p) (hc : r.chk c = 0) (h : c.p ≠ p) : (r.app c).has p = r.has p := by
  have h1 := chk_rng hc
  unfold Ros.has Ros.app
  simp only [Nat.testBit_xor, Nat.testBit_two_pow]
  have : ¬ c.p.toNat = p.toNat := by omega
  simp [this]
theorem goW_has {was : Ros} {p : Int} (hp : 0 ≤ p) : ∀ (l : List Chg) (r : Ros), (∀ c ∈ l, c.p ≠ p) → (was.goW r l).2 = 0 → (was.goW r l).1.has p = r.has p
  | [], r, _, _ => rfl
  | c :: l, r, hl, h => by
    unfold Ros.goW at h ⊢
    split
    · rename_i hc
      rw [if_pos hc] at h
      exact absurd h hc
    · rename_i hc
      rw [if_neg hc] at h
      rw [goW_has hp l _ (fun d hd => hl d (List.mem_cons_of_mem _ hd)) h, app_has hp (Classical.byContradiction fun h' => hc h') (hl c List.mem_cons_self)]
theorem chk_ros {r : Rec} {n : Int} {w : Ros} (h : r.chk n w = 0) : (r.ros w).2 = 0 ∧ r.c.length ≤ 8 := by
  unfold Rec.chk at h
  split at h
  · cases h
  split at h
  · rename_i h2; exact absurd h h2.2
  split at h
  · rename_i h2; exact absurd h h2
  rename_i h3
  have h4 : (r.ros w).2 = 0 := Classical.byContradiction h3
  refine ⟨h4, ?_⟩
  unfold Rec.ros at h4
  split at h4
  · cases h4
  · omega
/-- Who neither comes nor goes stays. -/
theorem apply_has (I : List Fn) (F : Fd) (r : Rec) {p : Int} (hp : 0 ≤ p) (hc : r.chk F.W.turn F.r = 0) (hl : ∀ c ∈ r.c, c.p ≠ p) : (F.apply I r).1.r.has p = F.r.has p := by
  rw [(apply_tn I F r hc).2]
  have h := chk_ros hc
  unfold Rec.ros at h ⊢
  rw [if_neg (by omega)] at h ⊢
  exact goW_has hp _ _ hl h.1

/-- A peer whose state lies at 2100. -/
abbrev fdH2 (v : Nat) (V : Vs) (u : Nat) (I : List Fn) (F : Fd) : Heap := [(2100, v, ⟨0, [.at 2101 V.w 0, .isl (rowFn I) I.length, u32v F.r.s, i64c F.r.e, i64c F.pt, i64c F.pd]⟩),
   (2101, V.w, ⟨0, [.at 2102 V.t 0, i64v F.W.refused, i64v F.W.e0, i64v F.W.e1, i64v F.W.e2, i64v F.W.e3, i64v F.W.e4, i64v F.W.e5, .at 2104 V.m 0, i64v F.W.turn, i64v F.W.player]⟩),
   (2102, V.t, ⟨0, [.sl 2103 u 0 F.W.tab.l.length, i64v F.W.tab.next]⟩), (2103, u, ⟨6, rowU F.W.tab.l⟩),
   (2104, V.m, ⟨0, [.at 2105 V.h 0, .at 2106 V.d 0, .isl (rowFn I) I.length, .ifc 167 (.agg [.at 2101 V.w 0])]⟩),
   (2105, V.h, ⟨0, F.W.heap.map i64v⟩), (2106, V.d, ⟨0, [.v (.int .u64 F.W.dice)]⟩)]
abbrev prH2 (x : PVs) (I : List Fn) (P : Pr) : Heap := (4000, x.p, ⟨0, [i64c P.me, .isl (rowFn I) I.length, .at 2100 x.f 0, .at 4002 x.g 0, .isl [] 0, .sl 4005 x.q 0 P.q.length, i64c P.g, i64c P.st]⟩) :: (4002, x.g, ⟨0, [i64c 0, i64c 0, u64c 0, .v (.bool false), .mp 4003 x.w]⟩) :: (4003, x.w, ⟨0, []⟩) :: (4005, x.q, ⟨4, rowC P.q⟩) :: fdH2 x.f x.V x.u I P.F
theorem has1 (n : Int) : (Ros.mk (setOf (plsG (1 + bits .and .i64 n 3))) 0).has 1 = true := by
  have hn : 0 ≤ bits .and .i64 n 3 ∧ bits .and .i64 n 3 ≤ 3 := i64_and_le n 3 (by decide)
  generalize bits .and .i64 n 3 = m at hn
  have hm : m = 0 ∨ m = 1 ∨ m = 2 ∨ m = 3 := by omega
  rcases hm with rfl | rfl | rfl | rfl <;> decide
theorem div4 {t : Int} (h : 0 ≤ t) : (t + 1).tdiv 4 = t.tdiv 4 + (if (t + 1).tmod 4 = 0 then 1 else 0) := by
  rw [Int.tdiv_eq_ediv_of_nonneg (by omega), Int.tdiv_eq_ediv_of_nonneg h, Int.tmod_eq_emod_of_nonneg (by omega)]
  split <;> omega
set_option maxHeartbeats 8000000 in
set_option maxRecDepth 100000 in
theorem PeerHashes_T (n : Int) (L : List Stp) (hL : ∀ x ∈ L, x.c.length * 40 ≤ 140737488351232) : callT Tryz.prog 3 [i64c n, .isl (rowS L) L.length] ⟨[], []⟩ (fun r h => r = .v (.bool true)) := by
  refine callT_of_body [0, 1, 4, 5, 6, 7, 8, 9, 10, 11, 12, 13, 14, 16, 17, 18, 20, 40, 48, 61, 84, 85, 86, 87, 88, 117] [] Tryz.func3 rfl (by decide) (by kernel_rfl) rfl ?_
  have hn3 : 0 ≤ bits .and .i64 n 3 ∧ bits .and .i64 n 3 ≤ 3 := i64_and_le n 3 (by decide)
  have hh1 := has1 n
  have eK : IntKind.i64.wrap (1 + bits .and .i64 n 3) = 1 + bits .and .i64 n 3 := (fun (m : Int) (h : 0 ≤ m ∧ m ≤ 3) => (i64_id (by omega) (by omega) : IntKind.i64.wrap (1 + m) = 1 + m)) _ hn3
  generalize hKK : 1 + bits .and .i64 n 3 = K at hh1 eK
  have hG := Game22_T K
  have hpl := plsG_ok K
  have hB := PBegin_T gameI (by decide) 7 (plsG K) (by omega) 2 2 hpl.1 1 (by decide) hh1
  have hN := FNew_T gameI (by decide) 7 (plsG K) (by omega) 2 2 hpl.1
  have h0 := fd0_ok K
  have hr0 : (fd0 7 (plsG K) 2 2).r.has 1 = true := hh1
  have ht0 : (fd0 7 (plsG K) 2 2).W.turn = 0 := rfl
  generalize fd0 7 (plsG K) 2 2 = F0 at hB hN h0 hr0 ht0
  simp only [fdGame, u64c, i64c] at hG hB hN
  simp [i64c, eK, hKK]
  refine callT_eq [] PAwk_T ?_
  simp [eK, hKK]
  refine callT_eq [] hG ?_
  simp [i64c, i64v, u32v, u64c]
  intro v5
  refine callT_exa [(4000, 4000), (4002, 4002), (4003, 4003), (4005, 4005), (2000, 2100), (2001, 2101), (2002, 2102), (2003, 2103), (2004, 2104), (2005, 2105), (2006, 2106)] hB ?_
  simp [i64c, i64v, u32v, u64c]
  intro x
  refine callT_exa [(2000, 2000), (2001, 2001), (2002, 2002), (2003, 2003), (2004, 2004), (2005, 2005), (2006, 2006)] hN ?_
  simp [i64c, i64v, u32v, u64c]
  intro v V u
  refine ⟨Nat × Fd × Nat × Nat, fun y => y.1 ≤ L.length ∧ y.1 ≤ 20 ∧ y.2.1.Ok y.1 ∧ y.2.1.r.has 1 = true, fun y => ⟨[(1, .isl (rowS L) L.length), (6, .at 4000 x.p 0), (8, .at 2000 v 0), (10, i64c (y.2.1.W.turn.tdiv 4)), (11, i64c y.1)], fdH v V y.2.2.1 gameI y.2.1 ++ prH2 { x with u := y.2.2.2 } gameI ⟨1, y.2.1, [], 0, 2⟩⟩, fun y => L.length - y.1, ?_, ?_⟩
  · exact SLx.fin _ ⟨(0, F0, u, x.u), ⟨by simp, by simp, h0, hr0⟩, rfl⟩ (by simp [i64c, i64v, u32v, u64c, ht0]) (by simp [i64c, i64v, u32v, u64c])
  rintro ⟨k, F, u, u'⟩ ⟨hk, hk2, hF, hf1⟩
  simp only at hk hk2 hF hf1 ⊢
  have hsn := FSnap_T v V u gameI F k hF (by omega)
  have hps := PSnap_T { x with u := u' } gameI ⟨1, F, [], 0, 2⟩ k hF (by omega)
  have htu := WTurn_T V u gameI F.W
  have htn := hF.w.sm F.W.turn (by simp)
  have eW : IntKind.i64.wrap (F.W.turn.tdiv 4) = F.W.turn.tdiv 4 := by
    have := Int.tdiv_eq_ediv_of_nonneg (b := 4) htn.1
    exact i64_id (by omega) (by omega)
  simp only [i64c] at htu
  by_cases g : k < L.length
  · have g' : (k : Int) < L.length := by omega
    by_cases g2 : k < 20
    · have g2' : (k : Int) < 20 := by omega
      have e1 : IntKind.i64.wrap ((k : Int) + 1) = ((k + 1 : Nat) : Int) := by rw [i64_id (by omega) (by omega)]; rfl
      have hat := rowS_at g
      have hlk := hL _ (List.getElem_mem g)
      have hwo := Without_T L[k] 1 hlk
      have hwl : (L[k].wo 1).c.length ≤ maxLen := Nat.le_trans (wof_le _ _) (Nat.le_trans (show _ ≤ 140737488351232 by omega) (by decide))
      have hmk := Make22_T v V u gameI F k hF (by omega) (L[k].wo 1) hwl
      have hsz := mkR_sz hF (by omega) (L[k].wo 1)
      have hne := wo_ne F L[k] 1
      have heb := hF.e
      have htn := hF.w.sm F.W.turn (by simp)
      generalize mkR F (L[k].wo 1) = r at hmk hsz hne
      have hap := FApply_T v V u gameI F r _ img_game hF.w (by omega) hF.s hF.e0 (by omega) hsz
      have hF' := Fd.apply_ok img_game noput_game hF hsz (by omega)
      have htk := PTkT_T { x with u := u' } gameI ⟨1, F, [], 0, 2⟩ r k img_game noput_game hF (by omega) (by omega) hsz
      have hsc := says_clo gameI ⟨1, F, [], 0, 2⟩ r
      have hcl : r.cells = [i64c r.t, .isl (rowG r.c) r.c.length, i64c r.pt, i64c r.pd, .isl (rowP r.l) r.l.length] := rfl
      have hsc2 : (L[k].wo 1).cells = [.isl (rowG (L[k].wo 1).c) (L[k].wo 1).c.length, .v (.bool (L[k].wo 1).o), i64c (L[k].wo 1).a, i64c (L[k].wo 1).b, .isl (rowB (L[k].wo 1).l) (L[k].wo 1).l.length, i64c (L[k].wo 1).t] := rfl
      rw [hcl] at hmk hap htk
      rw [hsc2] at hmk hwo
      simp only [Stp.cells, i64c] at hmk hap htk hwo
      simp [i64c, i64v, u32v, u64c, g, g', g2, g2', hat, Stp.cells]
      refine callT_eq [] hwo ?_
      simp [i64c, i64v, u32v, u64c]
      refine callT_eq [(2000, 2000), (2001, 2001), (2002, 2002), (2003, 2003), (2004, 2004), (2005, 2005), (2006, 2006)] hmk ?_
      simp [i64c, i64v, u32v, u64c]
      intro v12
      by_cases hc : r.chk F.W.turn F.r = 0
      · have hk1 := apply_has gameI F r (p := 1) (by decide) hc hne
        have htn1 := (apply_tn gameI F r hc).1
        have her : (F.apply gameI r).2 = 0 := by rw [apply_er, hc]
        have hsa : Pr.says gameI ⟨1, F, [], 0, 2⟩ r = if (F.apply gameI r).1.W.turn.tmod 4 = 0 then [hashT (F.apply gameI r).1.W.turn (sumOf (wdB (F.apply gameI r).1.W))] else [] := by
          unfold Pr.says Pr.turn
          simp only [her, ne_eq, not_true_eq_false, if_false, false_or, hk1, hf1]
          by_cases h4 : (F.apply gameI r).1.W.turn.tmod 4 = 0 <;> simp [h4]
        have htr : Pr.turn gameI ⟨1, F, [], 0, 2⟩ r = ⟨1, (F.apply gameI r).1, [], 0, 2⟩ := by
          unfold Pr.turn
          simp [her, hk1, hf1]
        rw [htr] at htk
        rw [her] at hap htk
        rw [hf1] at hk1
        generalize (F.apply gameI r).1 = F' at hap hF' htk hk1 htn1 hsa
        rw [hsa] at htk
        have htu' := fun u => WTurn_T V u gameI F'.W
        have hhs' := fun u => WHash_T V u gameI F'.W _ hF'.w (by omega) hF'.R
        simp only [u64c, i64c, hashT] at htu' hhs' htk
        refine callT_ex [(2000, 2000), (2001, 2001), (2002, 2002), (2003, 2003), (2004, 2004), (2005, 2005), (2006, 2006)] hap ?_
        simp [i64c, i64v, u32v, u64c]
        intro u1
        by_cases h4 : F'.W.turn.tmod 4 = 0
        · rw [if_pos h4] at htk
          refine callT_ex [(4000, 4000), (4002, 4002), (4003, 4003), (4005, 4005), (2000, 2100), (2001, 2101), (2002, 2102), (2003, 2103), (2004, 2104), (2005, 2105), (2006, 2106)] htk ?_
          simp [i64c, i64v, u32v, u64c]
          intro u2
          have hdiv := div4 htn.1
          rw [if_pos (by rw [← htn1]; exact h4)] at hdiv
          refine callT_eq [(2001, 2001), (2002, 2002), (2003, 2003), (2004, 2004), (2005, 2005), (2006, 2006)] (htu' u1) ?_
          simp [i64c, i64v, u32v, u64c, h4]
          refine ⟨Nat, fun j => j ≤ 1, fun j => ⟨[(1, .isl (rowS L) L.length), (6, .at 4000 x.p 0), (8, .at 2000 v 0), (10, i64c (F.W.turn.tdiv 4 + j)), (11, i64c k), (85, .isl [.ifc 66 (.agg [i64c F'.W.turn, u64c (sumOf (wdB F'.W))])] 1), (86, i64c 1), (87, i64c j)], fdH v V u1 gameI F' ++ prH2 { x with u := u2 } gameI ⟨1, F', [], 0, 2⟩⟩, fun j => 1 - j, ?_, ?_⟩
          · exact SLx.fin _ ⟨0, by decide, rfl⟩ (by simp [i64c, i64v, u32v, u64c]) (by simp [i64c, i64v, u32v, u64c])
          intro j hj
          by_cases hj0 : j = 0
          · subst hj0
            simp [i64c, i64v, u32v, u64c]
            intro v17
            refine draw_g [0, 1, 2, 3, 4, 5, 6, 7, 8, 9, 10, 11, 12, 13, 14, 15, 16, 17, 18, 19] 20 [(9, [0, 1, 2, 5, 6, 7, 8]), (19, [0, 1, 2, 3, 4, 5, 6, 7, 8, 9, 10, 11, 12, 15, 16, 17, 18])] (by kernel_rfl) (by kernel_rfl) (by kernel_rfl) ?_
            simp [i64c, i64v, u32v, u64c]
            refine callT_eq [(2001, 2001), (2002, 2002), (2003, 2003), (2004, 2004), (2005, 2005), (2006, 2006)] (htu' u1) ?_
            simp [i64c, i64v, u32v, u64c]
            refine callT_eq [(2001, 2001), (2002, 2002), (2003, 2003), (2004, 2004), (2005, 2005), (2006, 2006)] (hhs' u1) ?_
            simp [i64c, i64v, u32v, u64c]
            have e2 : IntKind.i64.wrap (F.W.turn.tdiv 4 + 1) = F.W.turn.tdiv 4 + 1 := by
              have := Int.tdiv_eq_ediv_of_nonneg (b := 4) htn.1
              exact i64_id (by omega) (by omega)
            exact SLx.again 1 (by decide) (by decide) (by simp [i64c, i64v, u32v, u64c, e2, show IntKind.i64.wrap 1 = 1 by decide]) (by simp [i64c, i64v, u32v, u64c])
          · have hj1 : j = 1 := by omega
            subst hj1
            simp [i64c, i64v, u32v, u64c]
            exact SLx.again (k + 1, F', u1, u2) ⟨by simp only; omega, by simp only; omega, hF', hk1⟩ (by simp only; omega) (by simp [i64c, i64v, u32v, u64c, e1, htn1, hdiv]) (by simp [i64c, i64v, u32v, u64c])
        · rw [if_neg h4] at htk
          refine callT_ex [(4000, 4000), (4002, 4002), (4003, 4003), (4005, 4005), (2000, 2100), (2001, 2101), (2002, 2102), (2003, 2103), (2004, 2104), (2005, 2105), (2006, 2106)] htk ?_
          simp [i64c, i64v, u32v, u64c]
          intro u2
          have hdiv := div4 htn.1
          rw [if_neg (by rw [← htn1]; exact h4), Int.add_zero] at hdiv
          refine callT_eq [(2001, 2001), (2002, 2002), (2003, 2003), (2004, 2004), (2005, 2005), (2006, 2006)] (htu' u1) ?_
          simp [i64c, i64v, u32v, u64c, h4]
          refine ⟨Unit, fun _ => True, fun _ => ⟨[(1, .isl (rowS L) L.length), (6, .at 4000 x.p 0), (8, .at 2000 v 0), (10, i64c (F.W.turn.tdiv 4)), (11, i64c k), (86, i64c 0), (87, i64c 0)], fdH v V u1 gameI F' ++ prH2 { x with u := u2 } gameI ⟨1, F', [], 0, 2⟩⟩, fun _ => 0, ?_, ?_⟩
          · exact SLx.fin _ ⟨(), trivial, rfl⟩ (by simp [i64c, i64v, u32v, u64c]) (by simp [i64c, i64v, u32v, u64c])
          rintro ⟨⟩ -
          simp [i64c, i64v, u32v, u64c]
          exact SLx.again (k + 1, F', u1, u2) ⟨by simp only; omega, by simp only; omega, hF', hk1⟩ (by simp only; omega) (by simp [i64c, i64v, u32v, u64c, e1, htn1, hdiv]) (by simp [i64c, i64v, u32v, u64c])
      · have her : (F.apply gameI r).2 ≠ 0 := by rw [apply_er]; exact hc
        have hno := apply_no gameI F r hc
        rw [hno] at hap hF'
        generalize (F.apply gameI r).2 = e at hap her
        refine callT_ex [(2000, 2000), (2001, 2001), (2002, 2002), (2003, 2003), (2004, 2004), (2005, 2005), (2006, 2006)] hap ?_
        simp [i64c, i64v, u32v, u64c, her]
        intro u1
        exact SLx.again (k + 1, F, u1, u') ⟨by simp only; omega, by simp only; omega, hF', hf1⟩ (by simp only; omega) (by simp [i64c, i64v, u32v, u64c, e1]) (by simp [i64c, i64v, u32v, u64c])
    · have g2' : ¬ (k : Int) < 20 := by omega
      simp [i64c, i64v, u32v, u64c, g, g', g2, g2']
      refine callT_eq [(2001, 2001), (2002, 2002), (2003, 2003), (2004, 2004), (2005, 2005), (2006, 2006)] htu ?_
      simp [i64c, i64v, u32v, u64c, eW]
      refine callT_eq [(4000, 4000), (4002, 4002), (4003, 4003), (4005, 4005), (2000, 2100), (2001, 2101), (2002, 2102), (2003, 2103), (2004, 2104), (2005, 2105), (2006, 2106)] hps ?_
      simp [i64c, i64v, u32v, u64c]
      refine callT_eq [(2000, 2000), (2001, 2001), (2002, 2002), (2003, 2003), (2004, 2004), (2005, 2005), (2006, 2006)] hsn ?_
      simp [i64c, i64v, u32v, u64c]
  · have g' : ¬ (k : Int) < L.length := by omega
    simp [i64c, i64v, u32v, u64c, g, g']
    refine callT_eq [(2001, 2001), (2002, 2002), (2003, 2003), (2004, 2004), (2005, 2005), (2006, 2006)] htu ?_
    simp [i64c, i64v, u32v, u64c, eW]
    refine callT_eq [(4000, 4000), (4002, 4002), (4003, 4003), (4005, 4005), (2000, 2100), (2001, 2101), (2002, 2102), (2003, 2103), (2004, 2104), (2005, 2105), (2006, 2106)] hps ?_
    simp [i64c, i64v, u32v, u64c]
    refine callT_eq [(2000, 2000), (2001, 2001), (2002, 2002), (2003, 2003), (2004, 2004), (2005, 2005), (2006, 2006)] hsn ?_
    simp [i64c, i64v, u32v, u64c]
end Go.Proofs.YtnkdkajllmopaaaGreat.TL
