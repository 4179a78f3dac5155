/- Own words, in one text: Th Ti Tj Tk Tl Tm. No program is named here. -/
import Derived.Test.YtnkdkajllmopaaaGreatTA
import Derived.Laws.StructEq
import Derived.ChangeKeysEq
import Derived.Laws.Cover3
import Derived.Laws.MakeOwn
import Derived.Lib.ConvBytes
/- Own words, part 6: appends. No program is named here. -/
/- Own words, part 7: the operations that write no memory, as functions: what they ask, what they give. No program is named here. -/
/- Own words, part 8: one operation, a region's operations in their order. No program is named here. -/
/- Own words, part 9: operations with memory, calls; a region's operations one behind the other. No program is named here. -/
/- Own words, part 10: code: what must hold of a state so that the code goes on to what Q says; a function's call out of its code. No program is named here. -/
/- Own words, part 11: a function's call out of its code; a call's contract used where its blocks bear other numbers. No program is named here. -/
namespace Go.Proofs.YtnkdkajllmopaaaGreat.TL
open Go
set_option linter.unusedVariables false
set_option linter.unusedSimpArgs false

/-- All are single cells. -/
def AllC (l : List TV) : Prop := ∀ x ∈ l, cellV x = true

section
variable {P : Program} {e : Ent} {E : Env} {s : TS} {w : World}

/-- What is appended: how many elements, their cells. -/
def srcT (P : Program) (t k : Nat) (s : TS) (x : TV) (K : Nat → List TV → Prop) : Prop :=
  match x with
  | .v (.string z) => kdOf P t = .str ∧ k = 1 ∧ K (sl z).length ((sl z).map bv)
  | .v (.slice none 0 0) => elemOf P t = some k ∧ K 0 []
  | .sl b ver o m => match getH s.h b with
    | some (ver', B) => (ver = ver' ∧ elemOf P t = some k ∧ m * k ≤ (B.cells.drop o).length ∧ AllC ((B.cells.drop o).take (m * k))) ∧ K m ((B.cells.drop o).take (m * k))
    | none => False
  | .isl c m => (elemOf P t = some k ∧ m * k ≤ c.length ∧ AllC (c.take (m * k))) ∧ K m (c.take (m * k))
  | _ => False

theorem one_of_vals {E : Env} {l : List TV} {news : List Value} (h : AllC l) (hl : news.length = l.length) (hv : RVl E l (fun i => news[i]?) 0) : ∀ u ∈ news, u.oneCell' = true := fun u hu => by
  obtain ⟨j, hj, rfl⟩ := List.getElem_of_mem hu
  obtain ⟨v', k1, k2⟩ := hv.get j (l[j]'(by omega)) (List.getElem?_eq_getElem _)
  rw [Nat.zero_add, List.getElem?_eq_getElem hj] at k1
  cases k1
  exact (cellV_one k2 (h _ (List.getElem_mem _))).1

theorem srcT_sound {t k : Nat} {x : TV} {u : Value} {K : Nat → List TV → Prop} (H : SatH e E s.h w) (hx : RV E x u) (h : srcT P t k s x K) :
    ∃ m l news, K m l ∧ Src P k t u m news w ∧ news.length = l.length ∧ RVl E l (fun i => news[i]?) 0 := by
  unfold srcT at h
  split at h
  · rename_i z
    obtain ⟨hk, rfl, hK⟩ := h
    simp only [RV] at hx; subst hx
    refine ⟨_, _, byteCells z, hK, ?_, by simp [byteCells, sl], ?_⟩
    · rw [← size_sl]; exact Src.ofString w (kdOf_str hk) z
    · refine RVl.of fun j y hy => ?_
      rw [List.getElem?_map] at hy
      obtain ⟨b, hb, rfl⟩ := Option.map_eq_some_iff.1 hy
      refine ⟨.int .u8 b.toNat, ?_, by simp only [bv, RV]⟩
      simp only [Nat.zero_add, byteCells, List.getElem?_map]
      simp only [sl] at hb
      rw [hb]; rfl
  · obtain ⟨hk, hK⟩ := h
    obtain ⟨ee, h1, _, _⟩ := elemOf_spec hk
    simp only [RV] at hx; subst hx
    exact ⟨0, [], [], hK, Src.ofNil w h1 0, rfl, by simp only [RVl]⟩
  · rename_i b ver o m
    split at h
    · rename_i ver' B hb
      obtain ⟨⟨rfl, hk, hl, hall⟩, hK⟩ := h
      obtain ⟨ee, h1, _, _⟩ := elemOf_spec hk
      obtain ⟨R, hR, hB⟩ := H.live b ver B hb
      simp only [RV] at hx
      obtain ⟨a, cap, rfl, h6, h60, h7, h8⟩ := hx
      rcases h8 R hR with ⟨rfl, rfl, rfl, rfl⟩ | ⟨q, a', rfl, rfl, h10, h11⟩
      · refine ⟨_, _, [], hK, ?_, by simp, by simp only [Nat.zero_mul, List.take_zero, RVl]⟩
        exact Src.ofNil w h1 0
      · rcases h10 with rfl | rfl
        · obtain rfl : m = 0 := by omega
          refine ⟨_, _, [], hK, ?_, by simp, by simp only [Nat.zero_mul, List.take_zero, RVl]⟩
          exact Src.ofSlice w h1 a' 0 0 [] (by simp) (fun j u hj => by simp at hj) (fun u hu => by cases hu)
        · replace hB := hB.sl h11
          rcases hB with ⟨k0, _, _⟩ | ⟨q', k1, k2, k3, k4, k5⟩
          · cases k0
          cases k1
          obtain ⟨news, n1, n2, n3⟩ := ((k5.drop o).take (m * k)).vals
          refine ⟨_, _, news, hK, ?_, n1, n3⟩
          exact Src.ofSlice w h1 ⟨q.r, q.base + o, none⟩ m cap news (by rw [n1, List.length_take]; omega) (fun j u hj => by rw [Addr.add_lit]; exact n2 j u hj) (one_of_vals hall n1 n3)
    · exact h.elim
  · rename_i c m
    obtain ⟨⟨hk, hl, hall⟩, hK⟩ := h
    obtain ⟨ee, h1, _, _⟩ := elemOf_spec hk
    simp only [RV] at hx
    rcases hx with ⟨rfl, rfl, rfl⟩ | ⟨a, cap, rfl, h2, h3⟩
    · exact ⟨_, _, [], hK, Src.ofNil w h1 0, by simp, by simp only [Nat.zero_mul, List.take_zero, RVl]⟩
    · rcases h3 with rfl | ⟨h3, h4⟩
      · have hm : m * k = 0 := by simpa using hl
        refine ⟨_, _, [], hK, ?_, by simp, by simp only [List.take_nil, RVl]⟩
        exact Src.ofSlice w h1 a m cap [] (by simpa using hm.symm) (fun j u hj => by simp at hj) (fun u hu => by cases hu)
      · obtain ⟨news, n1, n2, n3⟩ := (h4.take (m * k)).vals
        refine ⟨_, _, news, hK, ?_, n1, n3⟩
        exact Src.ofSlice w h1 a m cap news (by rw [n1, List.length_take]; omega) (fun j u hj => by rw [add_spot _ _ h3]; exact H.imm _ _ _ (n2 j u hj)) (one_of_vals hall n1 n3)
  · exact h.elim

/-- What lies behind what is appended. -/
def tailT (cells : List TV) (j : Nat) : List TV := if cells.length ≤ j then [] else cells.drop j
theorem tailT_eq (cells : List TV) (j : Nat) : tailT cells j = cells.drop j := by
  unfold tailT
  split
  · rw [List.drop_eq_nil_of_le ‹_›]
  · rfl

def appT (P : Program) (d ta tx : Nat) (s : TS) (x y : TV) (K : TV → Heap → Prop) : Prop :=
  match elemOf P ta, P.underlying ta with
  | some k, some (.slice ee) => srcT P tx k s y fun m new => match x with
    | .v (.slice none 0 0) => m * byOf P ee ≤ 140737488355328 ∧ m ≤ 140737488355328 ∧ ∀ v, K (.sl d v 0 m) (setH s.h d (v, ⟨k, new⟩))
    | .sl b ver o n => match getH s.h b with
      | some (ver', B) => (ver = ver' ∧ B.k = k ∧ n * k ≤ (B.cells.drop o).length) ∧ (n + m) * byOf P ee ≤ 140737488355328 ∧ n + m ≤ 140737488355328 ∧
          ∀ v, K (.sl b v 0 (n + m)) (setH s.h b (v, ⟨k, (B.cells.drop o).take (n * k) ++ (new ++ tailT (B.cells.drop o) (n * k + new.length))⟩))
      | none => False
    | _ => False
  | _, _ => False

theorem nil_new (H : SatH e E s.h w) {b : Nat} : RV (E.slot b none) (.sl b (E.c + 1) 0 0) (.slice none 0 0) := by
  simp only [RV]
  refine ⟨none, 0, rfl, Nat.le_refl _, by simp, by simp [Env.slot], fun R hR => ?_⟩
  simp [Env.slot] at hR
  exact .inl (by simp [← hR])

/-- An append that makes a new row, for slot b. -/
theorem app_grow (H : SatH e E s.h w) {b ta tx ty ee k m n sCap : Nat} {i : TypeInfo} {z : Value} {base : Option Addr} {yv : Value} {olds news : List Value} {lo ln : List TV} {K : TV → Heap → Prop}
    (h1 : P.underlying ta = some (.slice ee)) (h3 : 0 < k) (hi : P.info? ee = some i) (hik : i.size = k) (hz : i.zero = some z) (hzk : z.cells.size = k)
    (hs : Src P k tx yv m news w) (hold : (Builtin.firstCells k n (.slice base n sCap)).run P w.drew = .ok olds.toArray w.drew) (ho : olds.length = n * k) (hlo : olds.length = lo.length) (hvo : RVl E lo (fun i => olds[i]?) 0)
    (hln : news.length = ln.length) (hvn : RVl E ln (fun i => news[i]?) 0) (hg : sCap < n + m) (hby : (n + m) * i.bytes ≤ 140737488355328) (hm : n + m ≤ 140737488355328)
    (hK : ∀ v, K (.sl b v 0 (n + m)) (setH s.h b (v, ⟨k, lo ++ ln⟩))) :
    Goes e E K w ((Builtin.append_ #[ta, tx] ty #[.slice base n sCap, yv]).run P w) := by
  have hrun := run_append_grow_src (P := P) w ta tx ty ee i z h1 hi hz base n sCap olds (by rw [hik]; exact hold) yv m news (by rw [hik]; exact hs) hg (by omega) (growslice_fits hg (by omega))
  have hge := grownCap_ge w (n + m) sCap ee
  have hnl := hs.newsLen
  have hA := (H.drew).alloc b k (lo ++ ln) ((olds ++ news).toArray ++ Builtin.zeroCells z.cells (grownCap w (n + m) sCap ee - (n + m))) ee (by simp; omega) (RVl.append (RVl.mono (Env.Le.refl E) _ _ _ _ (fun j v hj => by
      have hjl := (List.getElem?_eq_some_iff.1 hj).1
      rw [Array.getElem?_append_left (by simp; omega)]
      simp [List.getElem?_append_left hjl, hj]) hvo) (by
    refine RVl.of fun j x hx => ?_
    obtain ⟨v, k1, k2⟩ := hvn.get j x hx
    rw [Nat.zero_add] at k1
    have hjl := (List.getElem?_eq_some_iff.1 k1).1
    refine ⟨v, ?_, k2⟩
    rw [Array.getElem?_append_left (by simp; omega)]
    simp only [List.getElem?_toArray]
    rw [List.getElem?_append_right (by omega), ← k1]
    congr 1
    omega))
  refine ⟨_, _, _, _, _, hK _, H.le_slot _ _, hA, ?_, hrun⟩
  refine sl_new H (q := ⟨w.heap.size, 0, _, k⟩) hge (fun _ => ?_)
  simp only [Array.size_append, List.size_toArray, List.length_append, size_zeroCells, hzk, ho, hnl, ← Nat.add_mul, Nat.zero_add]
  congr 1; omega

theorem appT_sound {d ta tx ty : Nat} {x y : TV} {u v : Value} {K : TV → Heap → Prop} (H : SatH e E s.h w) (hx : RV E x u) (hy : RV E y v) (h : appT P d ta tx s x y K) :
    Goes e E K w ((Builtin.append_ #[ta, tx] ty #[u, v]).run P w) := by
  unfold appT at h
  split at h
  · rename_i k ee hk hu
    obtain ⟨ee', i, z, h1, h2, h3, hi, hik, hz, hzk⟩ := elemOf_all hk
    rw [hu] at h1
    cases h1
    have hby : byOf P ee = i.bytes := by simp [byOf, hi]
    rw [hby] at h
    obtain ⟨m, new, news, hK, hs, hln, hvn⟩ := srcT_sound H hy h
    have hnl := hs.newsLen
    split at hK
    · simp only [RV] at hx; subst hx
      obtain ⟨c1, c2, hK⟩ := hK
      by_cases hm : m = 0
      · subst hm
        obtain rfl : news = [] := List.eq_nil_of_length_eq_zero (by simpa using hnl)
        obtain rfl : new = [] := List.eq_nil_of_length_eq_zero (by simpa using hln.symm)
        have hr := run_append_nothing (P := P) w ta tx ty ee i hu hi none 0 0 (Nat.le_refl _) v (by rw [hik]; exact hs)
        exact ⟨_, _, _, _, _, hK _, H.le_slot _ _, H.nil d k (by omega), nil_new H, hr⟩
      · refine app_grow (b := d) (n := 0) (lo := []) (olds := []) H hu h3 hi hik hz hzk hs (run_firstCells_none w.drew k 0 0 0) (by simp) rfl (by simp only [RVl]) hln hvn (by omega) (by simpa using c1) (by simpa using c2) ?_
        simpa using hK
    · rename_i b ver o n
      split at hK
      · rename_i ver' B hb
        obtain ⟨⟨rfl, rfl, hl⟩, c1, c2, hK⟩ := hK
        obtain ⟨R, hR, hB⟩ := H.live b ver B hb
        simp only [RV] at hx
        obtain ⟨a, cap, rfl, h6, h60, h7, h8⟩ := hx
        simp only [tailT_eq] at hK
        rcases h8 R hR with ⟨rfl, rfl, rfl, rfl⟩ | ⟨q, a', rfl, rfl, h10, h11⟩
        · have hnil : B.cells = [] := by
            replace hB := hB.no
            rcases hB with ⟨_, _, k0⟩ | ⟨q', k1, _⟩
            · exact k0
            · cases k1
          simp only [hnil, List.drop_nil, List.append_nil] at hK hl
          by_cases hm : m = 0
          · subst hm
            obtain rfl : news = [] := List.eq_nil_of_length_eq_zero (by simpa using hnl)
            obtain rfl : new = [] := List.eq_nil_of_length_eq_zero (by simpa using hln.symm)
            have hr := run_append_nothing (P := P) w ta tx ty ee i hu hi none 0 0 (Nat.le_refl _) v (by rw [hik]; exact hs)
            simp only [Nat.zero_mul, List.take_nil, List.append_nil] at hK
            exact ⟨_, _, _, _, _, hK _, H.le_slot _ _, H.nil b B.k (by omega), nil_new H, hr⟩
          · simp only [Nat.zero_mul, List.take_nil, List.nil_append] at hK
            exact app_grow (n := 0) (lo := []) (olds := []) H hu h3 hi hik hz hzk hs (run_firstCells_none w.drew B.k 0 0 0) (by simp) rfl (by simp only [RVl]) hln hvn (by omega) c1 c2 hK
        · replace hB := hB.sl h11
          rcases hB with ⟨k0, _, _⟩ | ⟨q', k1, k2, k3, k4, k5⟩
          · cases k0
          cases k1
          have h110 := h11 (by omega)
          rw [k2] at h110
          by_cases hroom : n + m ≤ cap
          · -- there is room
            by_cases hm : m = 0 ∧ cap = 0
            · obtain ⟨rfl, rfl⟩ := hm
              obtain rfl : n = 0 := by omega
              obtain rfl : news = [] := List.eq_nil_of_length_eq_zero (by simpa using hnl)
              obtain rfl : new = [] := List.eq_nil_of_length_eq_zero (by simpa using hln.symm)
              have hr := run_append_nothing (P := P) w ta tx ty ee i hu hi (some a') 0 0 (Nat.le_refl _) v (by rw [hik]; exact hs)
              have hdn : List.drop o B.cells = [] := List.drop_eq_nil_of_le (by omega)
              simp only [hdn, Nat.zero_mul, List.take_nil, List.drop_nil, List.append_nil] at hK
              refine ⟨_, _, _, _, E.slot b (some ⟨q.r, q.sz, q.sz, B.k⟩), hK _, H.le_slot _ _, H.slot b _ _ w (Nat.le_refl _) (fun _ _ _ => rfl) rfl rfl rfl (fun q' hq' => ?_) (.inl (.inr ⟨_, rfl, rfl, by simp, k4, by simp only [RVl]⟩)), ?_, hr⟩
              · cases hq'
                exact ⟨(H.ownd _ _ _ hR).1, .inl ⟨_, _, hR, rfl⟩⟩
              · simp only [RV]
                refine ⟨_, _, rfl, Nat.le_refl _, (fun hh => by cases hh), by simp [Env.slot], fun R hR' => ?_⟩
                simp [Env.slot] at hR'
                exact .inr ⟨_, _, hR'.symm, rfl, .inl rfl, fun _ => by simp⟩
            · have hcap : cap ≠ 0 := fun hc => hm ⟨by omega, hc⟩
              obtain rfl := h10.resolve_left hcap
              have hfit := h110
              have hnk : (n + m) * B.k ≤ cap * B.k := Nat.mul_le_mul_right _ hroom
              rw [Nat.add_mul] at hnk
              have hin : ∀ j, j < news.length → (w.cell? ⟨q.r, q.base + o + n * i.size + j, none⟩).isSome = true ∧ w.frozen? ⟨q.r, q.base + o + n * i.size + j, none⟩ = false := fun j hj => k4 _ (by rw [hik]; omega)
              have hr := run_append_room_src (P := P) w ta tx ty ee i hu hi q.r (q.base + o) n cap v m news (by rw [hik]; exact hs) hroom (fun j hj => (hin j hj).1) (fun j hj => (hin j hj).2)
              rw [hik] at hr hin
              have hcin := World.cell?_setCells_in q.r news (q.base + o + n * B.k) w (fun j hj => (hin j hj).1)
              have hcout : ∀ j, (j < q.base + o + n * B.k ∨ q.base + o + n * B.k + news.length ≤ j) → (w.setCells q.r (q.base + o + n * B.k) news).cell? ⟨q.r, j, none⟩ = w.cell? ⟨q.r, j, none⟩ := fun j hj =>
                World.cell?_setCells_out q.r news _ w ⟨q.r, j, none⟩ (fun _ _ => hj)
              obtain ⟨r1, r2, r3⟩ := rest_setCells q.r news (q.base + o + n * B.k) w
              refine ⟨_, _, _, _, E.slot b (some ⟨q.r, q.base + o, q.sz, B.k⟩), hK _, H.le_slot _ _, H.slot b _ _ _ (by rw [size_setCells]; exact Nat.le_refl _) (fun r hr hne => heap_setCells_ne _ _ _ _ _ (hne _ _ hR _ rfl rfl)) r1 r2 r3 (fun q' hq' => ?_) (.inl (.inr ⟨_, rfl, rfl, ?_, fun j hj => ?_, ?_⟩)), ?_, hr⟩
              · cases hq'
                exact ⟨by rw [size_setCells]; exact (H.ownd _ _ _ hR).1, .inl ⟨_, _, hR, rfl⟩⟩
              · simp only [List.length_append, List.length_take, List.length_drop]
                simp only [List.length_drop] at hl
                omega
              · rw [World.frozen?_setCells]
                refine ⟨?_, (k4 j hj).2⟩
                by_cases hj2 : q.base + o + n * B.k ≤ j ∧ j < q.base + o + n * B.k + news.length
                · have := hcin (j - (q.base + o + n * B.k)) (by omega)
                  rw [show q.base + o + n * B.k + (j - (q.base + o + n * B.k)) = j by omega] at this
                  rw [this]; rfl
                · rw [hcout j (by omega)]; exact (k4 j hj).1
              · refine RVl.mono (H.le_slot _ _) _ _ _ _ (fun _ _ hh => hh) (RVl.append (RVl.of fun j y hy => ?_) (RVl.append (RVl.of fun j y hy => ?_) (RVl.of fun j y hy => ?_)))
                · have hjl := (List.getElem?_eq_some_iff.1 hy).1
                  simp only [List.length_take] at hjl
                  obtain ⟨vv, e1, e2⟩ := ((k5.drop o).take (n * B.k)).get j y hy
                  exact ⟨vv, by rw [hcout _ (by simp only; omega)]; exact e1, e2⟩
                · obtain ⟨vv, e1, e2⟩ := hvn.get j y hy
                  rw [Nat.zero_add] at e1
                  obtain ⟨hjl, rfl⟩ := List.getElem?_eq_some_iff.1 e1
                  refine ⟨_, ?_, e2⟩
                  have hlen : ((B.cells.drop o).take (n * B.k)).length = n * B.k := by rw [List.length_take]; omega
                  rw [hlen]
                  exact hcin j hjl
                · have hlen : ((B.cells.drop o).take (n * B.k)).length = n * B.k := by rw [List.length_take]; omega
                  rw [hlen]
                  rw [List.getElem?_drop] at hy
                  obtain ⟨vv, e1, e2⟩ := (k5.drop o).get _ y hy
                  refine ⟨vv, ?_, e2⟩
                  rw [hcout _ (by simp only; omega), ← e1]
                  simp only
                  congr 2
                  omega
              · refine sl_new H (q := ⟨q.r, q.base + o, q.sz, B.k⟩) hroom (fun _ => hfit)
          · have hmul := Nat.mul_le_mul_right B.k (show cap ≤ n + m by omega)
            rw [Nat.add_mul] at hmul
            have htl : List.drop (n * B.k + new.length) (List.drop o B.cells) = [] := List.drop_eq_nil_of_le (by rw [List.length_drop]; omega)
            simp only [htl, List.append_nil] at hK
            obtain ⟨olds, o1, o2, o3⟩ := ((k5.drop o).take (n * B.k)).vals
            have holen : olds.length = n * B.k := by rw [o1, List.length_take]; omega
            have hold : (Builtin.firstCells B.k n (.slice (some a') n cap)).run P w.drew = .ok olds.toArray w.drew := by
              refine run_firstCells_some w.drew B.k n a' n cap olds holen (fun j vv hj => ?_)
              rcases h10 with rfl | rfl
              · obtain rfl : n = 0 := by omega
                obtain rfl : olds = [] := List.eq_nil_of_length_eq_zero (by simpa using holen)
                simp at hj
              · rw [Addr.add_lit]; exact o2 j vv hj
            exact app_grow H hu h3 hi hik hz hzk hs hold holen o1 o3 hln hvn (by omega) c1 c2 hK
      · exact hK.elim
    · exact hK.elim
  · exact h.elim
end
end Go.Proofs.YtnkdkajllmopaaaGreat.TL

namespace Go.Proofs.YtnkdkajllmopaaaGreat.TL
open Go
set_option linter.unusedVariables false
set_option linter.unusedSimpArgs false

abbrev PT := Prop × TV
def no : PT := (False, .any)

def qbin (op : BinOp) (x y : TV) : PT :=
  match x, y with
  | .v (.int k a), .v (.int k' b) =>
    match op with
    | .shl => (0 ≤ b, .v (.int k (k.wrap (a * 2 ^ (min b.toNat k.bits)))))
    | .shr => (0 ≤ b, .v (.int k (a.fdiv (2 ^ (min b.toNat k.bits)))))
    | .add => (k = k', .v (.int k (k.wrap (a + b))))
    | .sub => (k = k', .v (.int k (k.wrap (a - b))))
    | .mul => (k = k', .v (.int k (k.wrap (a * b))))
    | .quo => (k = k' ∧ b ≠ 0, .v (.int k (k.wrap (a.tdiv b))))
    | .rem => (k = k' ∧ b ≠ 0, .v (.int k (a.tmod b)))
    | .and => (k = k', .v (.int k (bits .and k a b)))
    | .or => (k = k', .v (.int k (bits .or k a b)))
    | .xor => (k = k', .v (.int k (bits .xor k a b)))
    | .andNot => (k = k', .v (.int k (bits .andNot k a b)))
    | .eql => (k = k', .v (.bool (decide (a = b))))
    | .neq => (k = k', .v (.bool (!decide (a = b))))
    | .lss => (k = k', .v (.bool (decide (a < b))))
    | .leq => (k = k', .v (.bool (decide (a ≤ b))))
    | .gtr => (k = k', .v (.bool (decide (b < a))))
    | .geq => (k = k', .v (.bool (decide (b ≤ a))))
  | .v (.string a), .v (.string b) =>
    match op with
    | .add => ((sl a).length + (sl b).length ≤ 9223372036854775807, .v (.string (bs (sl a ++ sl b))))
    | .eql => (True, .v (.bool (decide (sl a = sl b))))
    | .neq => (True, .v (.bool (!decide (sl a = sl b))))
    | _ => no
  | _, _ => no
theorem qbin_ok {op : BinOp} {x y : TV} (h : (qbin op x y).1) : binT op x y (fun r => r = (qbin op x y).2) := by
  unfold qbin at h ⊢
  unfold binT
  split at h
  · cases op <;> simp_all
  · cases op <;> simp_all [no]
  · simp [no] at h

def qun (op : UnOp) (x : TV) : PT :=
  match op, x with
  | .not, .v (.bool b) => (True, .v (.bool (!b)))
  | .neg, .v (.int k n) => (True, .v (.int k (k.wrap (0 - n))))
  | .xor, .v (.int k n) => (True, .v (.int k (bits .xor k (if k.signed then -1 else k.max) n)))
  | _, _ => no
theorem qun_ok {op : UnOp} {x : TV} (h : (qun op x).1) : unT op x (fun r => r = (qun op x).2) := by
  unfold qun at h ⊢
  unfold unT
  split at h <;> simp_all [no]

section
variable (P : Program) (s : TS)

/-- What a cell of a byte holds. -/
def unbv : TV → UInt8
  | .v (.int .u8 n) => UInt8.ofNat n.toNat
  | _ => 0
def AllB (l : List TV) : Prop := ∃ m : List UInt8, l = m.map bv
theorem unbv_bv (b : UInt8) : unbv (bv b) = b := by simp [unbv, bv]
theorem map_unbv (l : List UInt8) : (l.map bv).map unbv = l := by
  rw [List.map_map]
  conv => rhs; rw [← List.map_id l]
  exact List.map_congr_left fun b _ => unbv_bv b

def qconv (src dst : Nat) (x : TV) : PT :=
  match x with
  | .v (.int _ n) => match kdOf P dst with
    | .int k => (hasU P src = true, .v (.int k (k.wrap n)))
    | _ => no
  | .v (.string z) => match kdOf P dst with
    | .str => (hasU P src = true, .v (.string z))
    | _ => no
  | .sl b ver o n => match getH s.h b, kdOf P src, kdOf P dst with
    | some (ver', B), .bytes, .str => (hasU P src = true ∧ ver = ver' ∧ AllB ((B.cells.drop o).take n) ∧ n ≤ (B.cells.drop o).length, .v (.string (bs (((B.cells.drop o).take n).map unbv))))
    | _, _, _ => no
  | .isl cells n => match kdOf P src, kdOf P dst with
    | .bytes, .str => (hasU P src = true ∧ AllB cells ∧ cells.length = n, .v (.string (bs (cells.map unbv))))
    | _, _ => no
  | .v (.slice none 0 0) => match kdOf P src, kdOf P dst with
    | .bytes, .str => (hasU P src = true, .v (.string (bs [])))
    | _, _ => no
  | _ => no
theorem qconv_ok {src dst : Nat} {x : TV} (h : (qconv P s src dst x).1) : convT P src dst s x (fun r => r = (qconv P s src dst x).2) := by
  unfold qconv at h ⊢
  unfold convT
  split at h
  · split at h
    · exact ⟨h, by simp_all⟩
    · simp [no] at h
  · split at h
    · exact ⟨h, by simp_all⟩
    · simp [no] at h
  · split at h
    · rename_i h1 h2 h3
      obtain ⟨h4, rfl, ⟨m, hm⟩, h5⟩ := h
      refine ⟨h4, ?_⟩
      simp only [h1, h2, h3, true_and]
      refine ⟨m, hm, ?_, by rw [hm, map_unbv]⟩
      have := congrArg List.length hm
      simp only [List.length_take, List.length_map] at this
      omega
    · simp [no] at h
  · split at h
    · rename_i h2 h3
      obtain ⟨h4, ⟨m, rfl⟩, h5⟩ := h
      refine ⟨h4, ?_⟩
      simp only [h2, h3]
      exact ⟨m, rfl, by simpa using h5, by rw [map_unbv]⟩
    · simp [no] at h
  · split at h
    · exact ⟨h, by simp_all⟩
    · simp [no] at h
  · simp [no] at h

def qread (ag : Bool) (k : Nat) (c : Prop) (cells : List TV) : PT :=
  if ag then (c ∧ k ≤ cells.length, .agg (cells.take k)) else (c ∧ cells ≠ [], cells.headD .any)
def qload (t : Nat) (x : TV) : PT :=
  match x with
  | .at b ver o => match getH s.h b with
    | some (ver', B) => qread (isAg P t) (szOf P t) (ver = ver' ∧ hasU P t = true ∧ 0 < szOf P t) (B.cells.drop o)
    | none => no
  | .iat cells => qread (isAg P t) (szOf P t) (hasU P t = true ∧ 0 < szOf P t) cells
  | _ => no
def headK (cells : List TV) (K : TV → Prop) : Prop := match cells with | z :: _ => K z | [] => False
theorem qread_ok {ag : Bool} {k : Nat} {c : Prop} {cells : List TV} (h : (qread ag k c cells).1) :
    c ∧ (if ag then k ≤ cells.length ∧ TV.agg (cells.take k) = (qread ag k c cells).2 else headK cells fun z => z = (qread ag k c cells).2) := by
  unfold qread at h ⊢
  cases ag
  · cases cells with
    | nil => simp at h
    | cons z l => simp [headK] at h ⊢; exact h
  · simp at h ⊢; exact h
theorem qload_ok {t : Nat} {x : TV} (h : (qload P s t x).1) : loadT P t s x (fun r => r = (qload P s t x).2) := by
  unfold qload at h ⊢
  unfold loadT addrCells
  cases x with
  | «at» b ver o =>
    simp only at h ⊢
    cases hb : getH s.h b with
    | none => simp [hb, no] at h
    | some p =>
      obtain ⟨ver', B⟩ := p
      simp only [hb] at h ⊢
      obtain ⟨⟨rfl, h1, h2⟩, h3⟩ := qread_ok h
      exact ⟨h1, h2, rfl, h3⟩
  | iat cells =>
    simp only at h ⊢
    obtain ⟨⟨h1, h2⟩, h3⟩ := qread_ok h
    exact ⟨h1, h2, h3⟩
  | _ => simp [no] at h

def qfieldAddr (t f : Nat) (x : TV) : PT :=
  match fieldOf P t f with
  | some (o', _, _) => match x with
    | .at b ver o => (True, .at b ver (o + o'))
    | .iat c => (True, .iat (c.drop o'))
    | _ => no
  | none => no
theorem qfieldAddr_ok {t f : Nat} {x : TV} (h : (qfieldAddr P t f x).1) : fieldAddrT P t f x (fun r => r = (qfieldAddr P t f x).2) := by
  unfold qfieldAddr at h ⊢
  unfold fieldAddrT
  split at h
  · split at h <;> simp_all [no]
  · simp [no] at h

def qfield (t f : Nat) (x : TV) : PT :=
  match fieldOf P t f, x with
  | some (o, k, ag), .agg l => if ag then (o + k ≤ l.length, .agg ((l.drop o).take k)) else (l.drop o ≠ [], (l.drop o).headD .any)
  | _, _ => no
theorem qfield_ok {t f : Nat} {x : TV} (h : (qfield P t f x).1) : fieldT P t f x (fun r => r = (qfield P t f x).2) := by
  unfold qfield at h ⊢
  unfold fieldT
  split at h
  · rename_i o k ag l hf
    simp only [hf]
    cases ag
    · simp only [Bool.false_eq_true, if_false] at h ⊢
      cases hd : l.drop o with
      | nil => exact absurd hd h
      | cons z l' => simp
    · simp at h ⊢
      exact h
  · simp [no] at h

def qextract (x : TV) (i : Nat) : PT :=
  match x with
  | .tup l => (l.drop i ≠ [], (l.drop i).headD .any)
  | _ => no
theorem qextract_ok {x : TV} {i : Nat} (h : (qextract x i).1) : extractT x i (fun r => r = (qextract x i).2) := by
  unfold qextract at h ⊢
  unfold extractT
  split at h
  · rename_i l
    cases hd : l.drop i with
    | nil => exact absurd hd h
    | cons z l' => simp [hd]
  · simp [no] at h

def qidx (t : Nat) (x i : TV) : PT :=
  match i with
  | .v (.int _ i) => match elemOf P t, arrOf P t, x with
    | some k, _, .sl b ver o n => (0 ≤ i ∧ i < n, .at b ver (o + i.toNat * k))
    | some k, _, .isl c n => (0 ≤ i ∧ i < n ∧ n * k ≤ c.length, .iat (c.drop (i.toNat * k)))
    | none, some (n, k), .at b ver o => (0 ≤ i ∧ i < n, .at b ver (o + i.toNat * k))
    | none, some (n, k), .iat c => (0 ≤ i ∧ i < n, .iat (c.drop (i.toNat * k)))
    | _, _, _ => no
  | _ => no
theorem qidx_ok {t : Nat} {x i : TV} (h : (qidx P t x i).1) : idxT P t x i (fun r => r = (qidx P t x i).2) := by
  unfold qidx at h ⊢
  unfold idxT
  split at h
  · split at h <;> first | (simp [no] at h; done) | (simp only [*]; simp at h ⊢; exact h)
  · simp [no] at h

def qslice (t : Nat) (x : TV) (lo hi : Option TV) : PT :=
  match x with
  | .v (.string z) => match kdOf P t, bnd lo 0, bnd hi (sl z).length with
    | .str, some l, some h => (0 ≤ l ∧ l ≤ h ∧ h ≤ (sl z).length, .v (.string (bs (((sl z).drop l.toNat).take (h - l).toNat))))
    | _, _, _ => no
  | .sl b ver o n => match elemOf P t, getH s.h b with
    | some k, some (ver', B) => match bnd lo 0, bnd hi n with
      | some l, some h => (ver = ver' ∧ (B.k = 0 ∨ B.k = k) ∧ 0 ≤ l ∧ l ≤ h ∧ (h ≤ n ∨ B.k = k ∧ o + h.toNat * k ≤ B.cells.length), .sl b ver (o + l.toNat * k) (h - l).toNat)
      | _, _ => no
    | _, _ => no
  | .isl c n => match elemOf P t, bnd lo 0, bnd hi n with
    | some k, some l, some h => (0 ≤ l ∧ l ≤ h ∧ h ≤ n ∧ n * k ≤ c.length, .isl ((c.drop (l.toNat * k)).take ((h - l).toNat * k)) (h - l).toNat)
    | _, _, _ => no
  | .v (.slice none 0 0) => match elemOf P t, bnd lo 0, bnd hi 0 with
    | some k, some l, some h => (l = 0 ∧ h = 0, .v (.slice none 0 0))
    | _, _, _ => no
  | .at b ver o => match arrOf P t, getH s.h b with
    | some (n, k), some (ver', B) => match bnd lo 0, bnd hi n with
      | some l, some h => (ver = ver' ∧ B.k = 0 ∧ 0 ≤ l ∧ l ≤ h ∧ h ≤ n, .sl b ver (o + l.toNat * k) (h - l).toNat)
      | _, _ => no
    | _, _ => no
  | .iat c => match arrOf P t with
    | some (n, k) => match bnd lo 0, bnd hi n with
      | some l, some h => (0 ≤ l ∧ l ≤ h ∧ h ≤ n ∧ n * k ≤ c.length, .isl ((c.drop (l.toNat * k)).take ((h - l).toNat * k)) (h - l).toNat)
      | _, _ => no
    | none => no
  | _ => no
theorem qslice_ok {t : Nat} {x : TV} {lo hi : Option TV} (h : (qslice P s t x lo hi).1) : sliceT P t s x lo hi (fun r => r = (qslice P s t x lo hi).2) := by
  unfold qslice at h ⊢
  unfold sliceT
  split at h
  · split at h
    · rename_i h1 h2 h3; simp only [h1, h2, h3]; simp at h ⊢; exact h
    · simp [no] at h
  · split at h
    · split at h
      · rename_i h1 h2 _ _ h3 h4
        simp only [*] at h ⊢
        exact ⟨h, trivial⟩
      · simp [no] at h
    · simp [no] at h
  · split at h
    · rename_i h1 h2 h3; simp only [h1, h2, h3]; simp at h ⊢; exact h
    · simp [no] at h
  · split at h
    · rename_i h1 h2 h3; simp only [h1, h2, h3]; simp at h ⊢; exact h
    · simp [no] at h
  · split at h
    · split at h
      · simp only [*] at h ⊢
        exact ⟨h, trivial⟩
      · simp [no] at h
    · simp [no] at h
  · split at h
    · split at h
      · simp only [*] at h ⊢
        exact ⟨h, trivial⟩
      · simp [no] at h
    · simp [no] at h
  · simp [no] at h

/-- s[l:h:m]: that it may be (what it is, is not said). -/
def qslice3 (t : Nat) (x lo hi m : TV) : PT :=
  match x, lo, hi, m with
  | .sl b ver o n, .v (.int _ l), .v (.int _ h), .v (.int _ m) => ((elemOf P t).isSome = true ∧ 0 ≤ l ∧ l ≤ h ∧ h ≤ m ∧ m ≤ n, .any)
  | _, _, _, _ => no
theorem qslice3_ok {E : Env} {w : World} {t : Nat} {x lo hi m : TV} {u l h k : Value} (hx : RV E x u) (h1 : RV E lo l) (h2 : RV E hi h) (h3 : RV E m k) (hp : (qslice3 P t x lo hi m).1) :
    ∃ z, RV E (qslice3 P t x lo hi m).2 z ∧ (Instr.sliceAt t u (some l) (some h) (some k)).run P w = .ok z w := by
  unfold qslice3 at hp ⊢
  split at hp
  · rename_i b ver o n k1 l' k2 h' k3 m'
    obtain ⟨e0, e1, e2, e3, e4⟩ := hp
    obtain ⟨kk, hk⟩ := Option.isSome_iff_exists.1 e0
    obtain ⟨ee, g1, rfl, g3⟩ := elemOf_spec hk
    simp only [RV] at hx h1 h2 h3
    subst h1 h2 h3
    obtain ⟨a, cap, rfl, h6, _⟩ := hx
    have hel : P.elem t = ee := by simp [Program.elem, g1]
    have b1 : ((m'.toNat : Nat) : Int) = m' := Int.toNat_of_nonneg (by omega)
    have b2 : ((h'.toNat : Nat) : Int) = h' := Int.toNat_of_nonneg (by omega)
    refine ⟨sliced a l'.toNat h'.toNat m'.toNat (szOf P ee), by simp only [RV], ?_⟩
    rw [run_sliceAt_slice w t _ _ _ _ (by rw [hel]; exact g1), run_slice_any w t _ _ _ (by rw [hel]; exact g1)]
    simp [Instr.sliceBounds, run_sliceBound (P := P) (w := w) k3 m' cap _ (by omega) (by omega), run_sliceBound (P := P) (w := w) k2 h' m'.toNat _ (by omega) (by omega), run_sliceBound (P := P) (w := w) k1 l' h'.toNat _ (by omega) (by omega), hel, run_szOf g3]
  · simp [no] at hp

def qlen (t : Nat) (x : TV) : PT :=
  match x with
  | .v (.string z) => (kdOf P t = .str, .v (.int .i64 (sl z).length))
  | .sl _ _ _ n | .isl _ n => ((elemOf P t).isSome = true, .v (.int .i64 n))
  | .v (.slice none 0 0) => ((elemOf P t).isSome = true, .v (.int .i64 0))
  | _ => no
theorem qlen_ok {t : Nat} {x : TV} (h : (qlen P t x).1) : lenT P t x (fun r => r = (qlen P t x).2) := by
  unfold qlen at h ⊢
  unfold lenT
  split at h <;> simp_all [no]

def qmm (mx : Bool) (x y : TV) : PT :=
  match x, y with
  | .v (.int k a), .v (.int k' b) => (True, .v (.int k (if mx then max a b else min a b)))
  | _, _ => no
theorem qmm_ok {mx : Bool} {x y : TV} (h : (qmm mx x y).1) : mmT mx x y (fun r => r = (qmm mx x y).2) := by
  unfold qmm at h ⊢
  unfold mmT
  split at h <;> simp_all [no]

def qindex (t : Nat) (x i : TV) : PT :=
  match x, i with
  | .agg l, .v (.int _ i) => match arrEOf P t with
    | some (n, k, false) => (0 ≤ i ∧ i < n ∧ l.drop (i.toNat * k) ≠ [], (l.drop (i.toNat * k)).headD .any)
    | _ => no
  | .v (.string z), .v (.int _ i) => (kdOf P t = .str ∧ 0 ≤ i ∧ i < (sl z).length, .v (.int .u8 (((sl z).getD i.toNat 0).toNat)))
  | _, _ => no
theorem qindex_ok {t : Nat} {x i : TV} (h : (qindex P t x i).1) : indexT P t x i (fun r => r = (qindex P t x i).2) := by
  unfold qindex at h ⊢
  unfold indexT
  split at h
  · rename_i l ki i
    split at h
    · rename_i n k hk
      obtain ⟨h1, h2, h3⟩ := h
      simp only [hk]
      refine ⟨⟨h1, h2⟩, ?_⟩
      cases hd : l.drop (i.toNat * k) with
      | nil => exact absurd hd h3
      | cons z l' => simp
    · simp [no] at h
  · simp_all [no]
  · simp_all [no]

def qbuild (t : Nat) (parts : List (Nat × TV)) : PT :=
  match plcOf P t, zeroOf P t with
  | some pl, some zs => match fillT (fun i => pl[i]?) (zs.map .v) parts with
    | some l => (True, .agg l)
    | none => no
  | _, _ => no
theorem qbuild_ok {t : Nat} {parts : List (Nat × TV)} (h : (qbuild P t parts).1) : buildT P t parts (fun r => r = (qbuild P t parts).2) := by
  unfold qbuild at h ⊢
  unfold buildT
  split at h
  · split at h
    · simp [*]
    · simp [no] at h
  · simp [no] at h
end
end Go.Proofs.YtnkdkajllmopaaaGreat.TL

namespace Go.Proofs.YtnkdkajllmopaaaGreat.TL
open Go
set_option linter.unusedVariables false
set_option linter.unusedSimpArgs false

def strip (g : Bool) (x : TV) : TV :=
  match x with
  | .opt g' y => if g' = g then y else .opt g' y
  | x => x
def TS.evg (s : TS) (g : Bool) (x : Operand) : TV := strip g (s.ev x)

theorem strip_sound {E : Env} {g : Bool} {x : TV} {y : Value} (hx : RV E x y) (hg : g = true) : RV E (strip g x) y := by
  unfold strip
  split
  · split
    · rename_i h; subst h; simp only [RV] at hx; exact hx.1 hg
    · exact hx
  · exact hx

def iteTV (t : Bool) (a b : TV) : TV := if t then a else b
theorem iteTV_true {a b : TV} : iteTV true a b = a := rfl
theorem iteTV_false {a b : TV} : iteTV false a b = b := rfl
theorem iteTV_bool {t x y : Bool} : iteTV t (.v (.bool x)) (.v (.bool y)) = .v (.bool (if t then x else y)) := by cases t <;> rfl
def qpick (c a b : TV) : PT :=
  match c with
  | .v (.bool t) => (True, iteTV t (strip t a) (strip (!t) b))
  | _ => no

def qnil (x : TV) : PT :=
  match x with
  | .at b ver o => (True, .at b ver o)
  | .iat c => (True, .iat c)
  | .fn (.func f) caps => (True, .fn (.func f) caps)
  | .v (.func (.func f) a b) => (True, .v (.func (.func f) a b))
  | _ => no

/-- Numbers (0), texts (1), truth values (2). -/
def scal (P : Program) (t : Nat) : Option Nat := match P.underlying t with | some (.int _) => some 0 | some .string => some 1 | some .bool => some 2 | _ => none
/-- A struct or an array of such alone: where they lie, of which kind. -/
def eqOfF (P : Program) : Nat → Nat → Option (List (Nat × Nat))
  | 0, _ => none
  | f + 1, t => match P.underlying t with
    | some (.int _) => some [(0, 0)]
    | some .string => some [(0, 1)]
    | some .bool => some [(0, 2)]
    | some (.struct fs) => if P.stoodInHeld t = false then (fs.toList.mapM fun x => if x.name ≠ "_" ∧ 0 < szOf P x.type then (eqOfF P f x.type).bind fun l => if l.all (fun p => decide (p.1 < szOf P x.type)) = true then some (l.map fun p => (x.offset + p.1, p.2)) else none else none).map List.flatten else none
    | some (.array n e) => if 0 < szOf P e then (eqOfF P f e).bind fun l => if l.all (fun p => decide (p.1 < szOf P e)) = true then some (((List.range n).map fun i => l.map fun p => (i * szOf P e + p.1, p.2)).flatten) else none else none
    | _ => none
def eqOf (P : Program) (t : Nat) : Option (List (Nat × Nat)) := if Program.eqGuardType P P.depth t = false ∧ isAg P t = true then eqOfF P 20 t else none
def eqS (k : Nat) (x y : TV) : Option Bool :=
  match k, x, y with
  | 0, .v (.int k a), .v (.int k' b) => if k = k' then some (decide (a = b)) else none
  | 1, .v (.string a), .v (.string b) => some (decide (sl a = sl b))
  | 2, .v (.bool a), .v (.bool b) => some (decide (a = b))
  | _, _, _ => none
def eqAt : List (Nat × Nat) → List TV → List TV → Option Bool
  | [], _, _ => some true
  | (o, k) :: l, xs, ys => match xs.drop o, ys.drop o with
    | x :: _, y :: _ => match eqS k x y, eqAt l xs ys with
      | some a, some b => some (a && b)
      | _, _ => none
    | _, _ => none
def isPtr (P : Program) (t : Nat) : Bool := match P.underlying t with | some (.pointer _) => true | _ => false
/-- Is it an interface type? A struct type that an interface value may hold, and that may be compared. -/
def isIfc (P : Program) (t : Nat) : Bool := match P.underlying t with | some (.interface _) => true | _ => false
def cmpB (P : Program) (t : Nat) : Bool := match P.info? t with | some i => i.comparable | none => false
def eqIf (P : Program) (t : Nat) : Option (List (Nat × Nat)) := if cmpB P t = true ∧ isAg P t = true then eqOfF P 20 t else none
/-- A type that an interface value may be asked for, no interface. -/
def assB (P : Program) (t : Nat) : Bool := match P.underlying t with | some (.interface _) => false | none => false | _ => (zeroOf P t).isSome
/-- The method's function of a type, by its name, when the receiver is the value itself. -/
def methOf (P : Program) (t : Nat) (name : String) : Option Nat :=
  match P.info? t with
  | some i => match i.methods.find? (·.name == name) with
    | some m => match m.func with
      | some (f, pr) => if m.path.isEmpty = true ∧ (P.underlying t).isSome = true ∧ pr = isPtr P t then some f else none
      | none => none
    | none => none
  | none => none
def qassert (P : Program) (asserted : Nat) (ok : Bool) (x : TV) : PT :=
  match x with
  | .ifc t y => if t = asserted then (assB P asserted = true, if ok = true then .tup [y, .v (.bool true)] else y) else (assB P asserted = true ∧ ok = true, .tup [.any, .v (.bool false)])
  | .v .nilIface => (assB P asserted = true ∧ ok = true, .tup [.any, .v (.bool false)])
  | _ => no
def bothNil (x y : TV) : Bool := match x, y with | .v .nilIface, .v .nilIface => true | _, _ => false
def isC (x : Operand) : Bool := match x with | .const _ => true | _ => false
def nilsT (P : Program) (op : BinOp) (t : Nat) (c : Bool) : PT :=
  match op with
  | .eql => (isIfc P t = true ∧ c = true, .v (.bool true))
  | .neq => (isIfc P t = true ∧ c = true, .v (.bool false))
  | _ => no

def isMapB (P : Program) (t : Nat) : Bool := match P.underlying t with | some (.map _ _) => true | _ => false
/-- A map, or none. -/
def isMapV : TV → Bool
  | .mp _ _ => true
  | .v (.map none) => true
  | _ => false
def qeq (P : Program) (t : Nat) (x y : TV) : Option (Prop × Bool) :=
  match x, y with
  | .v (.bool a), .v (.bool b) => some (scal P t = some 2, decide (a = b))
  | .agg xs, .agg ys => (eqOf P t).bind fun l => (eqAt l xs ys).map fun r => (True, r)
  | .at _ _ _, .v (.pointer none) | .iat _, .v (.pointer none) => some (isPtr P t = true, false)
  | .v (.pointer none), .v (.pointer none) => some (isPtr P t = true, true)
  | .mp _ _, .v (.map none) => some (isMapB P t = true, false)
  | .v (.map none), .v (.map none) => some (isMapB P t = true, true)
  | .ifc _ _, .v .nilIface | .v .nilIface, .ifc _ _ => some (isIfc P t = true, false)
  | .ifc a (.agg xs), .ifc b (.agg ys) => if a = b then (eqIf P a).bind fun l => (eqAt l xs ys).map fun r => (isIfc P t = true, r) else some (isIfc P t = true, false)
  | _, _ => none

def qbinT (P : Program) (op : BinOp) (t : Nat) (x y : TV) : PT :=
  match op, qeq P t x y with
  | .eql, some (c, r) => (c, .v (.bool r))
  | .neq, some (c, r) => (c, .v (.bool (!r)))
  | op, _ => qbin op x y

/-- A slice held against nil: whether it has memory isn't known. -/
def slNil (x y : TV) : Bool := match x, y with | .sl _ _ _ _, .v (.slice none 0 0) => true | _, _ => false

/-- A text that becomes a row of bytes. -/
def s2bB (P : Program) (b : Nat) (x : TV) : Bool := match kdOf P b, x with | .bytes, .v (.string _) => true | _, _ => false
def qop (P : Program) (s : TS) (ev : Operand → TV) (op : Op) : Option PT :=
  match op with
  | .move x | .assign x => some (True, ev x)
  | .pick c a b => some (qpick (ev c) (ev a) (ev b))
  | .build t ps => some (qbuild P t (ps.toList.map fun p => (p.1, ev p.2)))
  | .load t a => some (qload P s t (ev a))
  | .nilCheck x => some (qnil (ev x))
  | .binOp op t x y _ => if slNil (ev x) (ev y) = true then none else if bothNil (ev x) (ev y) = true then some (nilsT P op t (isC x || isC y)) else some (qbinT P op t (ev x) (ev y))
  | .typeAssert x _ t ok => some (qassert P t ok (ev x))
  | .unOp op _ x => some (qun op (ev x))
  | .convert a b x => if s2bB P b (ev x) = true then none else some (qconv P s a b (ev x))
  | .slice t x lo hi none => some (qslice P s t (ev x) (lo.map ev) (hi.map ev))
  | .slice t x (some lo) (some hi) (some m) => some (qslice3 P t (ev x) (ev lo) (ev hi) (ev m))
  | .fieldAddr t x f => some (qfieldAddr P t f (ev x))
  | .field t x f => some (qfield P t f (ev x))
  | .indexAddr t x i => some (qidx P t (ev x) (ev i))
  | .index t x i => some (qindex P t (ev x) (ev i))
  | .extract x i => some (qextract (ev x) i)
  | .makeInterface t x => some (P.concrete t = true, .ifc t (ev x))
  | .lookup t x i ok => some (qlook P s t ok (ev x) (ev i))
  | .makeFunc f first caps => some (first.size = 0, .fn f (caps.toList.map ev))
  | .call { callee := .builtin b, args, argTypes } => match b, args.toList, argTypes.toList with
    | .len, [x], t :: _ => some (if isMapV (ev x) = true then qlenM P s t (ev x) else qlen P t (ev x))
    | .max, [x, y], _ => some (qmm true (ev x) (ev y))
    | .min, [x, y], _ => some (qmm false (ev x) (ev y))
    | _, _, _ => none
  | _ => none

section
variable {P : Program} {e : Ent} {E : Env} {s : TS} {w : World}

theorem qpick_sound {c a b : TV} {cv av bv : Value} (hc : RV E c cv) (ha : RV E a av) (hb : RV E b bv) (h : (qpick c a b).1) :
    ∃ t, cv = .bool t ∧ RV E (qpick c a b).2 (if t then av else bv) := by
  unfold qpick at h ⊢
  split at h
  · rename_i t
    simp only [RV] at hc
    subst hc
    refine ⟨t, rfl, ?_⟩
    cases t
    · exact strip_sound (g := true) hb rfl
    · exact strip_sound (g := true) ha rfl
  · simp [no] at h

theorem qnil_sound {x : TV} {u : Value} {o : Oper} {ρ : Operand → Value} {ox : Operand} (hx : RV E x u) (ho : o.op = .nilCheck ox) (hu : ρ ox = u) (h : (qnil x).1) : ∃ v, RV E (qnil x).2 v ∧ (execOp ρ o).run P w = .ok (.value v) w := by
  unfold qnil at h ⊢
  split at h
  · refine ⟨u, hx, ?_⟩
    simp only [RV] at hx
    obtain ⟨p, rfl, _⟩ := hx
    simp [execOp, ho, hu]
  · refine ⟨u, hx, ?_⟩
    simp only [RV] at hx
    obtain ⟨p, rfl, _⟩ := hx
    simp [execOp, ho, hu]
  · refine ⟨u, hx, ?_⟩
    simp only [RV] at hx
    obtain ⟨zs, rfl, _⟩ := hx
    simp [execOp, ho, hu]
  · refine ⟨u, hx, ?_⟩
    simp only [RV] at hx
    subst hx
    simp [execOp, ho, hu]
  · simp [no] at h

theorem eqS_sound {d k : Nat} {t : TypeId} {x y : TV} {u v : Value} {r : Bool} (hk : scal P t = some k) (hx : RV E x u) (hy : RV E y v) (h : eqS k x y = some r) : (Op.equalIn (d + 1) t u v).run P w = .ok r w := by
  unfold eqS at h
  unfold scal at hk
  split at h
  · split at h
    · rename_i a k' b hkk
      cases h
      simp only [RV] at hx hy
      subst hx hy hkk
      split at hk
      · rename_i q hq; rw [run_equalIn_int w d t _ _ a b hq, beq_dec]
      · cases hk
      · cases hk
      · cases hk
    · cases h
  · rename_i a b
    cases h
    simp only [RV] at hx hy
    subst hx hy
    split at hk
    · cases hk
    · rename_i hq
      rw [run_equalIn_string w d t a b hq, toList_eq_sl, toList_eq_sl]
      congr 1
      by_cases hh : sl a = sl b <;> simp [hh]
    · cases hk
    · cases hk
  · rename_i a b
    cases h
    simp only [RV] at hx hy
    subst hx hy
    split at hk
    · cases hk
    · cases hk
    · rename_i hq; rw [run_equalIn_bool' w d t a b hq, beq_dec]
    · cases hk
  · cases h

/-- The same over values. -/
def eqC : List (Nat × Nat) → List Value → List Value → Option Bool
  | [], _, _ => some true
  | (o, k) :: l, us, vs => match us[o]?, vs[o]? with
    | some u, some v => match eqS k (.v u) (.v v), eqC l us vs with
      | some a, some b => some (a && b)
      | _, _ => none
    | _, _ => none
theorem eqS_V {k : Nat} {x y : TV} {u v : Value} {r : Bool} (hx : RV E x u) (hy : RV E y v) (h : eqS k x y = some r) : eqS k (.v u) (.v v) = some r := by
  unfold eqS at h
  split at h
  · simp only [RV] at hx hy; subst hx hy; exact h
  · simp only [RV] at hx hy; subst hx hy; exact h
  · simp only [RV] at hx hy; subst hx hy; exact h
  · cases h
theorem eqAt_C {xs ys : List TV} {us vs : List Value} (hx : RVl E xs (fun i => us[i]?) 0) (hy : RVl E ys (fun i => vs[i]?) 0) : ∀ (l : List (Nat × Nat)) (r : Bool), eqAt l xs ys = some r → eqC l us vs = some r
  | [], r, h => h
  | (o, k) :: l, r, h => by
    simp only [eqAt] at h
    split at h
    · rename_i x xs' y ys' h1 h2
      split at h
      · rename_i a b h3 h4
        obtain ⟨u, u1, u2⟩ := hx.get _ x (getElem?_drop_cons h1)
        obtain ⟨v, v1, v2⟩ := hy.get _ y (getElem?_drop_cons h2)
        rw [Nat.zero_add] at u1 v1
        simp only [eqC, u1, v1, eqS_V u2 v2 h3, eqAt_C hx hy l b h4]
        exact h
      · cases h
    · cases h
theorem eqC_app : ∀ (l l' : List (Nat × Nat)) (us vs : List Value) (r : Bool), eqC (l ++ l') us vs = some r → ∃ a b, eqC l us vs = some a ∧ eqC l' us vs = some b ∧ r = (a && b)
  | [], l', us, vs, r, h => ⟨true, r, rfl, h, by simp⟩
  | (o, k) :: l, l', us, vs, r, h => by
    simp only [List.cons_append, eqC] at h ⊢
    split at h
    · rename_i u v h1 h2
      split at h
      · rename_i a b h3 h4
        obtain ⟨a', b', k1, k2, k3⟩ := eqC_app l l' us vs b h4
        cases h
        exact ⟨a && a', b', by simp only [h1, h2, h3, k1], k2, by rw [k3, Bool.and_assoc]⟩
      · cases h
    · cases h
theorem eqC_shift {n o : Nat} {us vs : List Value} : ∀ (l : List (Nat × Nat)) (r : Bool), l.all (fun p => decide (p.1 < n)) = true → eqC (l.map fun p => (o + p.1, p.2)) us vs = some r → eqC l ((us.drop o).take n) ((vs.drop o).take n) = some r
  | [], r, _, h => h
  | (q, k) :: l, r, hn, h => by
    simp only [List.all_cons, Bool.and_eq_true, decide_eq_true_eq] at hn
    simp only [List.map_cons, eqC] at h ⊢
    rw [List.getElem?_take, if_pos hn.1, List.getElem?_drop, List.getElem?_take, if_pos hn.1, List.getElem?_drop]
    split at h
    · rename_i u v h1 h2
      split at h
      · rename_i a b h3 h4
        simp only [h1, h2, h3, eqC_shift l b hn.2 h4]
        exact h
      · cases h
    · cases h
/-- Cells as a value of a type. -/
def asV (P : Program) (t : Nat) (us : List Value) : Value := if isAg P t then .agg us.toArray else us.headD undef

theorem eqOfF_hasU {f t : Nat} {l : List (Nat × Nat)} (h : eqOfF P f t = some l) : hasU P t = true := by
  cases f with
  | zero => cases h
  | succ f =>
    unfold hasU
    cases hh : P.underlying t with
    | none => simp [eqOfF, hh] at h
    | some q => rfl
theorem eqOfF_one {f t : Nat} {l : List (Nat × Nat)} (h : eqOfF P f t = some l) (ha : isAg P t = false) : ∃ k, l = [(0, k)] ∧ scal P t = some k := by
  cases f with
  | zero => cases h
  | succ f =>
    unfold isAg at ha
    simp only [eqOfF] at h
    unfold scal
    split at h
    · rename_i k hk; cases h; exact ⟨0, rfl, by rw [hk]⟩
    · rename_i hk; cases h; exact ⟨1, rfl, by rw [hk]⟩
    · rename_i hk; cases h; exact ⟨2, rfl, by rw [hk]⟩
    · rename_i fs hk; rw [hk] at ha; simp at ha
    · rename_i n e hk; rw [hk] at ha; simp at ha
    · cases h
theorem run_part {t o f : Nat} {l : List (Nat × Nat)} {us vs : List Value} {r : Bool} (h : eqOfF P f t = some l) (hsz : 0 < szOf P t) (he : eqC l ((us.drop o).take (szOf P t)) ((vs.drop o).take (szOf P t)) = some r) :
    (part t us.toArray o).run P w = .ok (asV P t ((us.drop o).take (szOf P t))) w ∧ (part t vs.toArray o).run P w = .ok (asV P t ((vs.drop o).take (szOf P t))) w := by
  have hu := eqOfF_hasU h
  cases ha : isAg P t with
  | true =>
    simp only [part, Sem.run_bind, run_isAg hu, Result.andThen_ok, ha, if_true, run_szOf hsz, Sem.run_pure, asV]
    refine ⟨?_, ?_⟩ <;> (congr 2; apply Array.ext'; simp [List.extract_eq_take_drop])
  | false =>
    obtain ⟨k, rfl, hk⟩ := eqOfF_one h ha
    simp only [eqC] at he
    rw [List.getElem?_take, if_pos hsz, List.getElem?_drop, List.getElem?_take, if_pos hsz, List.getElem?_drop, Nat.add_zero] at he
    split at he
    · rename_i u v h1 h2
      have e1 : ∀ (z : List Value) (q : Value), z[o]? = some q → ((z.drop o).take (szOf P t)).headD undef = q := fun z q hq => by
        have : ((z.drop o).take (szOf P t))[0]? = some q := by rw [List.getElem?_take, if_pos hsz, List.getElem?_drop]; simpa using hq
        cases hh : (z.drop o).take (szOf P t) with
        | nil => rw [hh] at this; simp at this
        | cons a b => rw [hh] at this; simpa using this
      simp only [part, Sem.run_bind, run_isAg hu, Result.andThen_ok, ha, Bool.false_eq_true, if_false, asV]
      rw [e1 us u h1, e1 vs v h2]
      simp [h1, h2]
    · cases he

theorem eqF_sound : ∀ (f t : Nat) (l : List (Nat × Nat)), eqOfF P f t = some l → ∀ (d : Nat) (us vs : List Value) (r : Bool), f ≤ d → eqC l us vs = some r → (Op.equalIn d t (asV P t us) (asV P t vs)).run P w = .ok r w
  | 0, _, _, h, _, _, _, _, _, _ => by cases h
  | f + 1, t, l, h, d, us, vs, r, hd, he => by
    obtain ⟨d, rfl⟩ : ∃ d', d = d' + 1 := ⟨d - 1, by omega⟩
    have h0 := h
    cases ha : isAg P t with
    | false =>
      obtain ⟨k, rfl, hk⟩ := eqOfF_one h ha
      simp only [eqC] at he
      split at he
      · rename_i u v h1 h2
        split at he
        · rename_i a b h3 h4
          cases h4
          cases he
          have e1 : ∀ (z : List Value) (q : Value), z[0]? = some q → z.headD undef = q := fun z q hq => by
            cases z with
            | nil => simp at hq
            | cons a b => simpa using hq
          simp only [asV, ha, Bool.false_eq_true, if_false]
          rw [e1 us u h1, e1 vs v h2, Bool.and_true]
          exact eqS_sound (E := ⟨fun _ _ => none, fun _ => none, 0⟩) hk (by simp only [RV]) (by simp only [RV]) h3
        · cases he
      · cases he
    | true =>
      simp only [asV, ha, if_true]
      simp only [eqOfF] at h
      split at h
      · rename_i k hk; unfold isAg at ha; rw [hk] at ha; simp at ha
      · rename_i hk; unfold isAg at ha; rw [hk] at ha; simp at ha
      · rename_i hk; unfold isAg at ha; rw [hk] at ha; simp at ha
      · rename_i fs hu
        split at h
        · rename_i hst
          obtain ⟨L, hL, rfl⟩ := Option.map_eq_some_iff.1 h
          have hf : P.fieldsOf t = fs := by simp [Program.fieldsOf, hu]
          rw [run_equalIn_struct w d t _ _ (by rw [hf]; exact hu) hst, hf]
          clear h h0
          have key : ∀ (fs : List Field) (L : List (List (Nat × Nat))) (r : Bool), (fs.mapM fun x => if x.name ≠ "_" ∧ 0 < szOf P x.type then (eqOfF P f x.type).bind fun l => if l.all (fun p => decide (p.1 < szOf P x.type)) = true then some (l.map fun p => (x.offset + p.1, p.2)) else none else none) = some L →
              eqC L.flatten us vs = some r → (Op.eqFields d us.toArray vs.toArray fs).run P w = .ok r w := by
            intro fs
            induction fs with
            | nil =>
              intro L r hL he
              simp at hL
              subst hL
              simp only [List.flatten_nil, eqC, Option.some.injEq] at he
              subst he
              simp [Op.eqFields]
            | cons x fs ih =>
              intro L r hL he
              simp only [List.mapM_cons, Option.bind_eq_bind, Option.pure_def] at hL
              obtain ⟨p, hp, hL⟩ := Option.bind_eq_some_iff.1 hL
              obtain ⟨L', hL', hL⟩ := Option.bind_eq_some_iff.1 hL
              cases hL
              split at hp
              · rename_i hc
                obtain ⟨l1, hl1, hp⟩ := Option.bind_eq_some_iff.1 hp
                split at hp
                · rename_i hall
                  cases hp
                  simp only [List.flatten_cons] at he
                  obtain ⟨a, b, k1, k2, rfl⟩ := eqC_app _ _ _ _ _ he
                  have k3 := eqC_shift l1 a hall k1
                  obtain ⟨p1, p2⟩ := run_part (P := P) (w := w) hl1 hc.2 k3
                  have p3 := eqF_sound f x.type l1 hl1 d _ _ a (by omega) k3
                  simp only [Op.eqFields]
                  rw [if_pos hc.1]
                  simp only [Sem.run_bind, p1, p2, p3, Result.andThen_ok, Sem.run_ite]
                  cases a with
                  | true => simpa using ih L' b hL' k2
                  | false => simp
                · cases hp
              · cases hp
          exact key fs.toList L r hL he
        · cases h
      · rename_i n e hu
        split at h
        · rename_i hsz
          obtain ⟨l1, hl1, h⟩ := Option.bind_eq_some_iff.1 h
          split at h
          · rename_i hall
            cases h
            obtain ⟨i, hi, his⟩ : ∃ i, P.info? e = some i ∧ i.size = szOf P e := by
              unfold szOf at hsz ⊢
              cases hi : P.info? e with
              | none => rw [hi] at hsz; simp at hsz
              | some i => exact ⟨i, rfl, by simp⟩
            have hc : P.cellsOf e = szOf P e := rfl
            rw [run_equalIn_array w d _ _ hu hi, hc]
            clear h0
            have key : ∀ (is : List Nat) (r : Bool), eqC ((is.map fun i => l1.map fun p => (i * szOf P e + p.1, p.2)).flatten) us vs = some r → (Op.eqItems d e (szOf P e) us.toArray vs.toArray is).run P w = .ok r w := by
              intro is
              induction is with
              | nil =>
                intro r he
                simp only [List.map_nil, List.flatten_nil, eqC, Option.some.injEq] at he
                subst he
                simp [Op.eqItems]
              | cons i is ih =>
                intro r he
                simp only [List.map_cons, List.flatten_cons] at he
                obtain ⟨a, b, k1, k2, rfl⟩ := eqC_app _ _ _ _ _ he
                have k3 := eqC_shift l1 a hall k1
                obtain ⟨p1, p2⟩ := run_part (P := P) (w := w) hl1 hsz k3
                have p3 := eqF_sound f e l1 hl1 d _ _ a (by omega) k3
                simp only [Op.eqItems, Sem.run_bind, p1, p2, p3, Result.andThen_ok, Sem.run_ite]
                cases a with
                | true => simpa using ih b k2
                | false => simp
            exact key _ r he
          · cases h
        · cases h
      · cases h

theorem equal_depth (t : TypeId) (u v : Value) : Op.equal t u v = Op.equalIn (9998 + 1 + 1) t u v := rfl

theorem ptrNil {d : Nat} {t e : TypeId} (h : P.underlying t = some (.pointer e)) (p : Addr) : (Op.equalIn (d + 1) t (.pointer (some p)) (.pointer none)).run P w = .ok false w := by
  simp [Op.equalIn, run_underlying h]
theorem mapNil {d : Nat} {t k e : TypeId} (h : P.underlying t = some (.map k e)) (r : Nat) : (Op.equalIn (d + 1) t (.map (some r)) (.map none)).run P w = .ok false w := by
  simp [Op.equalIn, run_underlying h]
theorem mapNils {d : Nat} {t k e : TypeId} (h : P.underlying t = some (.map k e)) : (Op.equalIn (d + 1) t (.map none) (.map none)).run P w = .ok true w := by
  simp [Op.equalIn, run_underlying h]
theorem nilNil {d : Nat} {t e : TypeId} (h : P.underlying t = some (.pointer e)) : (Op.equalIn (d + 1) t (.pointer none) (.pointer none)).run P w = .ok true w := by
  simp [Op.equalIn, run_underlying h]

theorem isIfc_un {t : Nat} (h : isIfc P t = true) : ∃ ms, P.underlying t = some (.interface ms) := by
  unfold isIfc at h
  split at h
  · rename_i ms hu; exact ⟨ms, hu⟩
  · cases h
theorem qeq_sound {t : Nat} {x y : TV} {u v : Value} {ox oy : Operand} {c : Prop} {r : Bool} (hx : RV E x u) (hy : RV E y v) (h : qeq P t x y = some (c, r)) (hc : c) :
    (do eqGuard .eql t ox oy u v; binOp .eql t u v : Sem Value).run P w = .ok (.bool r) w ∧ (do eqGuard .neq t ox oy u v; binOp .neq t u v : Sem Value).run P w = .ok (.bool (!r)) w := by
  unfold qeq at h
  split at h
  · rename_i a b
    cases h
    simp only [RV] at hx hy
    subst hx hy
    have := eqS_sound (P := P) (E := E) (w := w) (d := 9998 + 1) (x := .v (.bool a)) (y := .v (.bool b)) (u := .bool a) (v := .bool b) (r := decide (a = b)) hc (by simp only [RV]) (by simp only [RV]) rfl
    rw [← equal_depth] at this
    constructor <;> simp [eqGuard, binOp, this]
  · rename_i xs ys
    obtain ⟨l, hl, h⟩ := Option.bind_eq_some_iff.1 h
    obtain ⟨r', hr, h⟩ := Option.map_eq_some_iff.1 h
    cases h
    simp only [RV] at hx hy
    obtain ⟨us, rfl, u1, u2⟩ := hx
    obtain ⟨vs, rfl, v1, v2⟩ := hy
    unfold eqOf at hl
    split at hl
    · rename_i hcc
      have hrun := eqF_sound (P := P) (w := w) 20 t l hl 10000 us vs r (by omega) (eqAt_C u2 v2 l r hr)
      simp only [asV, hcc.2, if_true] at hrun
      have heq : (Op.equal t (.agg us.toArray) (.agg vs.toArray)).run P w = .ok r w := hrun
      constructor
      · simp [eqGuard, binOp, heq, hcc.1]
      · simp [eqGuard, binOp, heq, hcc.1]
    · cases hl
  · cases h
    simp only [RV] at hx hy
    obtain ⟨p, rfl, _⟩ := hx
    subst hy
    unfold isPtr at hc
    split at hc
    · rename_i e he
      have := ptrNil (P := P) (w := w) (d := 9998 + 1) he p
      rw [← equal_depth] at this
      constructor <;> simp [eqGuard, binOp, this]
    · cases hc
  · cases h
    simp only [RV] at hx hy
    obtain ⟨p, rfl, _⟩ := hx
    subst hy
    unfold isPtr at hc
    split at hc
    · rename_i e he
      have := ptrNil (P := P) (w := w) (d := 9998 + 1) he p
      rw [← equal_depth] at this
      constructor <;> simp [eqGuard, binOp, this]
    · cases hc
  · cases h
    simp only [RV] at hx hy
    subst hx hy
    unfold isPtr at hc
    split at hc
    · rename_i e he
      have := nilNil (P := P) (w := w) (d := 9998 + 1) he
      rw [← equal_depth] at this
      constructor <;> simp [eqGuard, binOp, this]
    · cases hc
  · cases h
    simp only [RV] at hx hy
    obtain ⟨p, rfl, _⟩ := hx
    subst hy
    unfold isMapB at hc
    split at hc
    · rename_i k e he
      have := mapNil (P := P) (w := w) (d := 9998 + 1) he p
      rw [← equal_depth] at this
      constructor <;> simp [eqGuard, binOp, this]
    · cases hc
  · cases h
    simp only [RV] at hx hy
    subst hx hy
    unfold isMapB at hc
    split at hc
    · rename_i k e he
      have := mapNils (P := P) (w := w) (d := 9998 + 1) he
      rw [← equal_depth] at this
      constructor <;> simp [eqGuard, binOp, this]
    · cases hc
  · cases h
    simp only [RV] at hx hy
    obtain ⟨z, rfl, _⟩ := hx
    subst hy
    obtain ⟨ms, hu⟩ := isIfc_un hc
    have : ∀ q, (Op.equal t (.iface q z) .nilIface).run P w = .ok false w := fun q => by
      rw [equal_depth, Op.equalIn]; simp [run_underlying hu]
    constructor <;> simp [eqGuard, binOp, this]
  · cases h
    simp only [RV] at hx hy
    obtain ⟨z, rfl, _⟩ := hy
    subst hx
    obtain ⟨ms, hu⟩ := isIfc_un hc
    have : ∀ q, (Op.equal t .nilIface (.iface q z)).run P w = .ok false w := fun q => by
      rw [equal_depth, Op.equalIn]; simp [run_underlying hu]
    constructor <;> simp [eqGuard, binOp, this]
  · rename_i a xs b ys
    simp only [RV] at hx hy
    obtain ⟨z, rfl, us, rfl, u1, u2⟩ := hx
    obtain ⟨z', rfl, vs, rfl, v1, v2⟩ := hy
    split at h
    · rename_i hab
      subst hab
      obtain ⟨l, hl, h⟩ := Option.bind_eq_some_iff.1 h
      obtain ⟨r', hr, h⟩ := Option.map_eq_some_iff.1 h
      cases h
      obtain ⟨ms, hu⟩ := isIfc_un hc
      unfold eqIf at hl
      split at hl
      · rename_i hcc
        have hrun := eqF_sound (P := P) (w := w) 20 a l hl 9999 us vs r (by omega) (eqAt_C u2 v2 l r hr)
        simp only [asV, hcc.2, if_true] at hrun
        have hcm := hcc.1
        unfold cmpB at hcm
        split at hcm
        · rename_i i hi
          have : (Op.equal t (.iface a (.agg us.toArray)) (.iface a (.agg vs.toArray))).run P w = .ok r w := by
            rw [equal_depth, Op.equalIn]; simp [run_underlying hu, typeInfo, hi, hcm, hrun]
          constructor <;> simp [eqGuard, binOp, this]
        · cases hcm
      · cases hl
    · rename_i hab
      cases h
      obtain ⟨ms, hu⟩ := isIfc_un hc
      have : (Op.equal t (.iface a (.agg us.toArray)) (.iface b (.agg vs.toArray))).run P w = .ok false w := by
        rw [equal_depth, Op.equalIn]; simp [run_underlying hu, hab]
      constructor <;> simp [eqGuard, binOp, this]
  · cases h

theorem nilsT_sound {op : BinOp} {t : Nat} {ox oy : Operand} (h : (nilsT P op t (isC ox || isC oy)).1) :
    ∃ z, RV E (nilsT P op t (isC ox || isC oy)).2 z ∧ (do eqGuard op t ox oy .nilIface .nilIface; binOp op t .nilIface .nilIface : Sem Value).run P w = .ok z w := by
  have key : isIfc P t = true → (Op.equal t .nilIface .nilIface).run P w = .ok true w := fun hi => by
    obtain ⟨ms, hu⟩ := isIfc_un hi
    rw [equal_depth, Op.equalIn]; simp [run_underlying hu]
  have kc : (isC ox || isC oy) = true → (∃ v, ox = .const v) ∨ ∃ v, oy = .const v := fun hh => by
    cases ox with
    | const v => exact .inl ⟨v, rfl⟩
    | tmp n => cases oy with
      | const v => exact .inr ⟨v, rfl⟩
      | _ => simp [isC] at hh
    | _ => cases oy with
      | const v => exact .inr ⟨v, rfl⟩
      | _ => simp [isC] at hh
  have go : isIfc P t = true ∧ (isC ox || isC oy) = true → (do eqGuard .eql t ox oy .nilIface .nilIface; binOp .eql t .nilIface .nilIface : Sem Value).run P w = .ok (.bool true) w ∧ (do eqGuard .neq t ox oy .nilIface .nilIface; binOp .neq t .nilIface .nilIface : Sem Value).run P w = .ok (.bool false) w := fun hh => by
    have k1 := key hh.1
    rcases kc hh.2 with ⟨v, rfl⟩ | ⟨v, rfl⟩
    · constructor <;> simp [eqGuard, binOp, k1]
    · constructor <;> simp [eqGuard, binOp, k1]
  cases op <;> first | exact ⟨.bool true, by simp only [nilsT, RV], (go h).1⟩ | exact ⟨.bool false, by simp only [nilsT, RV], (go h).2⟩ | simp [nilsT, no] at h

theorem qassert_sound {asserted xT : Nat} {ok : Bool} {x : TV} {u : Value} (hx : RV E x u) (h : (qassert P asserted ok x).1) :
    ∃ z, RV E (qassert P asserted ok x).2 z ∧ (Instr.typeAssert u xT asserted ok).run P w = .ok z w := by
  have key : assB P asserted = true → ∃ d i z, P.underlying asserted = some d ∧ (∀ ms, d ≠ .interface ms) ∧ P.info? asserted = some i ∧ i.zero = some z := fun ha => by
    unfold assB at ha
    split at ha
    · cases ha
    · cases ha
    · rename_i d hd1 hd2
      unfold zeroOf at ha
      cases hi : P.info? asserted with
      | none => simp [hi] at ha
      | some i =>
        cases hz : i.zero with
        | none => simp [hi, hz] at ha
        | some z =>
          cases hu : P.underlying asserted with
          | none => exact absurd hu hd2
          | some d => exact ⟨d, i, z, rfl, fun ms hms => hd1 ms (by rw [hu, hms]), rfl, hz⟩
  unfold qassert at h ⊢
  split at h
  · rename_i t y
    simp only [RV] at hx
    obtain ⟨z, rfl, hz⟩ := hx
    split at h
    · rename_i ht
      subst ht
      obtain ⟨d, i, z0, k1, k2, k3, k4⟩ := key h
      cases ok with
      | true =>
        refine ⟨.tuple #[z, .bool true], ?_, ?_⟩
        · simp only [if_true, RV]
          exact ⟨[z, .bool true], rfl, rfl, by simp only [RVl]; exact ⟨⟨_, rfl, hz⟩, ⟨_, rfl, by simp only [RV]⟩, trivial⟩⟩
        · cases d <;> first | exact absurd rfl (k2 _) | simp [Instr.typeAssert, run_underlying k1]
      | false =>
        refine ⟨z, by simpa using hz, ?_⟩
        cases d <;> first | exact absurd rfl (k2 _) | simp [Instr.typeAssert, run_underlying k1]
    · rename_i ht
      obtain ⟨ha, rfl⟩ := h
      obtain ⟨d, i, z0, k1, k2, k3, k4⟩ := key ha
      refine ⟨.tuple #[z0, .bool false], ?_, ?_⟩
      · rw [if_neg ht]
        simp only [RV]
        exact ⟨[z0, .bool false], rfl, rfl, by simp only [RVl]; exact ⟨⟨_, rfl, by simp only [RV]⟩, ⟨_, rfl, by simp only [RV]⟩, trivial⟩⟩
      · cases d <;> first | exact absurd rfl (k2 _) | simp [Instr.typeAssert, run_underlying k1, ht, zeroValue, typeInfo, k3, k4]
  · simp only [RV] at hx
    subst hx
    obtain ⟨ha, rfl⟩ := h
    obtain ⟨d, i, z0, k1, k2, k3, k4⟩ := key ha
    refine ⟨.tuple #[z0, .bool false], ?_, ?_⟩
    · simp only [RV]
      exact ⟨[z0, .bool false], rfl, rfl, by simp only [RVl]; exact ⟨⟨_, rfl, by simp only [RV]⟩, ⟨_, rfl, by simp only [RV]⟩, trivial⟩⟩
    · cases d <;> first | exact absurd rfl (k2 _) | simp [Instr.typeAssert, run_underlying k1, zeroValue, typeInfo, k3, k4]
  · simp [no] at h

theorem qbinT_sound {op : BinOp} {t : Nat} {x y : TV} {u v : Value} {ox oy : Operand} (hx : RV E x u) (hy : RV E y v) (h : (qbinT P op t x y).1) :
    ∃ z, RV E (qbinT P op t x y).2 z ∧ (do eqGuard op t ox oy u v; binOp op t u v : Sem Value).run P w = .ok z w := by
  unfold qbinT at h ⊢
  split at h
  · rename_i c r hq
    exact ⟨.bool r, by simp only [RV], (qeq_sound hx hy hq h).1⟩
  · rename_i c r hq
    exact ⟨.bool (!r), by simp only [RV], (qeq_sound hx hy hq h).2⟩
  · obtain ⟨r, z, rfl, h2, h3⟩ := binT_sound (P := P) (w := w) (t := t) (ox := ox) (oy := oy) hx hy (qbin_ok h)
    exact ⟨z, h2, h3⟩

theorem map_parts {ev : Operand → TV} {ρ : Operand → Value} (hev : ∀ x, RV E (ev x) (ρ x)) (ps : Array (Nat × Operand)) :
    (ps.toList.map fun p => (p.1, ev p.2)).length = (ps.map fun (i, x) => (i, ρ x)).toList.length ∧
    ∀ (j i : Nat) (x : TV), (ps.toList.map fun p => (p.1, ev p.2))[j]? = some (i, x) → ∃ v : Value, (ps.map fun (i, x) => (i, ρ x)).toList[j]? = some (i, v) ∧ RV E x v := by
  refine ⟨by simp, fun j i x hx => ?_⟩
  rw [List.getElem?_map] at hx
  obtain ⟨p, hp, hpx⟩ := Option.map_eq_some_iff.1 hx
  cases hpx
  exact ⟨ρ p.2, by simp [Array.toList_map, hp], hev _⟩

theorem RVl_map0 {ev : Operand → TV} {ρ : Operand → Value} (hev : ∀ x, RV E (ev x) (ρ x)) (l : List Operand) : RVl E (l.map ev) (fun i => (l.map ρ)[i]?) 0 := RVl.of fun j x hx => by
  rw [List.getElem?_map] at hx
  obtain ⟨y, hy, rfl⟩ := Option.map_eq_some_iff.1 hx
  exact ⟨ρ y, by simp [hy], hev y⟩
theorem qop_sound {o : Oper} {ev : Operand → TV} {ρ : Operand → Value} {p : PT} (H : SatH e E s.h w) (hev : ∀ x, RV E (ev x) (ρ x)) (hq : qop P s ev o.op = some p) (hp : p.1) :
    ∃ v, RV E p.2 v ∧ (execOp ρ o).run P w = .ok (.value v) w := by
  unfold qop at hq
  split at hq
  · rename_i x ho; cases hq; exact ⟨_, hev x, by simp [execOp, ho]⟩
  · rename_i x ho; cases hq; exact ⟨_, hev x, by simp [execOp, ho]⟩
  · rename_i c a b ho; cases hq
    obtain ⟨t, h1, h2⟩ := qpick_sound (hev c) (hev a) (hev b) hp
    exact ⟨_, h2, by cases t <;> simp [execOp, ho, h1, asBool]⟩
  · rename_i t ps ho; cases hq
    obtain ⟨m1, m2⟩ := map_parts hev ps
    obtain ⟨r, z, rfl, h2, h3⟩ := buildT_sound (P := P) (w := w) m1 m2 (qbuild_ok P hp)
    exact ⟨z, h2, by simp [execOp, ho, h3]⟩
  · rename_i t a ho; cases hq
    obtain ⟨r, z, rfl, h2, h3⟩ := loadT_sound H (hev a) (qload_ok P s hp)
    exact ⟨z, h2, by simp [execOp, ho, h3]⟩
  · rename_i x ho; cases hq; exact qnil_sound (hev x) ho rfl hp
  · rename_i op t x y t' ho
    split at hq
    · cases hq
    split at hq
    · rename_i hbn
      cases hq
      obtain ⟨z, h2, h3⟩ := nilsT_sound (P := P) (E := E) (w := w) (op := op) (t := t) (ox := x) (oy := y) hp
      refine ⟨z, h2, ?_⟩
      have hxy : ρ x = .nilIface ∧ ρ y = .nilIface := by
        have hx := hev x
        have hy := hev y
        unfold bothNil at hbn
        split at hbn
        · rename_i e1 e2
          rw [e1] at hx
          rw [e2] at hy
          simp only [RV] at hx hy
          exact ⟨hx, hy⟩
        · cases hbn
      simp only [execOp, ho, hxy.1, hxy.2, Sem.run_bind]
      simp only [Sem.run_bind] at h3
      rw [h3]
      simp
    cases hq
    obtain ⟨z, h2, h3⟩ := qbinT_sound (P := P) (w := w) (op := op) (t := t) (ox := x) (oy := y) (hev x) (hev y) hp
    refine ⟨z, h2, ?_⟩
    simp only [execOp, ho, Sem.run_bind]
    simp only [Sem.run_bind] at h3
    rw [h3]
    simp
  · rename_i x xT t ok ho; cases hq
    obtain ⟨z, h2, h3⟩ := qassert_sound (P := P) (w := w) (xT := xT) (hev x) hp
    exact ⟨z, h2, by simp [execOp, ho, h3]⟩
  · rename_i op t x ho; cases hq
    obtain ⟨r, z, rfl, h2, h3⟩ := unT_sound (P := P) (w := w) (hev x) (qun_ok hp)
    exact ⟨z, h2, by simp [execOp, ho, h3]⟩
  · rename_i a b x ho
    split at hq
    · cases hq
    cases hq
    obtain ⟨r, z, rfl, h2, h3⟩ := convT_sound H (hev x) (qconv_ok P s hp)
    exact ⟨z, h2, by simp [execOp, ho, h3]⟩
  · rename_i t x lo hi ho; cases hq
    obtain ⟨r, z, rfl, h2, h3⟩ := sliceT_sound (lov := lo.map ρ) (hiv := hi.map ρ) H (hev x) (fun y hy => by
      obtain ⟨q, rfl, rfl⟩ := Option.map_eq_some_iff.1 hy
      exact ⟨_, rfl, hev q⟩) (fun hn => by rw [Option.map_eq_none_iff] at hn; rw [hn]; rfl) (fun y hy => by
      obtain ⟨q, rfl, rfl⟩ := Option.map_eq_some_iff.1 hy
      exact ⟨_, rfl, hev q⟩) (fun hn => by rw [Option.map_eq_none_iff] at hn; rw [hn]; rfl) (qslice_ok P s hp)
    exact ⟨z, h2, by simp [execOp, ho, h3]⟩
  · rename_i t x lo hi m ho; cases hq
    obtain ⟨z, h2, h3⟩ := qslice3_ok (w := w) P (hev x) (hev lo) (hev hi) (hev m) hp
    exact ⟨z, h2, by simp [execOp, ho, h3]⟩
  · rename_i t x f ho; cases hq
    obtain ⟨r, z, rfl, h2, h3⟩ := fieldAddrT_sound (w := w) (hev x) (qfieldAddr_ok P hp)
    exact ⟨z, h2, by simp [execOp, ho, h3]⟩
  · rename_i t x f ho; cases hq
    obtain ⟨r, z, rfl, h2, h3⟩ := fieldT_sound (w := w) (hev x) (qfield_ok P hp)
    exact ⟨z, h2, by simp [execOp, ho, h3]⟩
  · rename_i t x i ho; cases hq
    obtain ⟨r, z, rfl, h2, h3⟩ := idxT_sound (w := w) (hev x) (hev i) (qidx_ok P hp)
    exact ⟨z, h2, by simp [execOp, ho, h3]⟩
  · rename_i t x i ho; cases hq
    obtain ⟨r, z, rfl, h2, h3⟩ := indexT_sound (w := w) (hev x) (hev i) (qindex_ok P hp)
    exact ⟨z, h2, by simp [execOp, ho, h3]⟩
  · rename_i x i ho; cases hq
    obtain ⟨r, z, rfl, h2, h3⟩ := extractT_sound (P := P) (w := w) (hev x) (qextract_ok hp)
    exact ⟨z, h2, by simp [execOp, ho, h3]⟩
  · rename_i t x ho; cases hq
    refine ⟨.iface t (ρ x), by simp only [RV]; exact ⟨_, rfl, hev x⟩, ?_⟩
    simp [execOp, ho, run_makeInterface w t _ hp]
  · rename_i t x i ok ho; cases hq
    obtain ⟨z, h2, h3⟩ := qlook_sound H (hev x) (hev i) hp
    exact ⟨z, h2, by simp [execOp, ho, h3]⟩
  · rename_i f first caps ho; cases hq
    obtain rfl : first = #[] := by simpa using hp
    refine ⟨.func f #[] (caps.map ρ), ?_, by simp [execOp, ho, Instr.makeFunc]⟩
    simp only [RV]
    exact ⟨caps.toList.map ρ, by congr 1; apply Array.ext'; simp, by simp, RVl_map0 hev caps.toList⟩
  · rename_i b args ts ho
    split at hq
    · rename_i x t ts' h1 h2; cases hq
      have ha : args = #[x] := by apply Array.ext'; simpa using h1
      by_cases hm : isMapV (ev x) = true
      · rw [if_pos hm] at hp ⊢
        obtain ⟨z, k2, k3⟩ := qlenM_sound (P := P) (ty := o.type) H (hev x) hp
        refine ⟨z, k2, ?_⟩
        have e0 : ts[0]? = some t := by rw [← Array.getElem?_toList, h2]; rfl
        have k4 : (Builtin.len_ ts o.type #[ρ x]).run P w = .ok z w := by
          rw [← k3]
          simp [Builtin.len_, e0]
        subst ha; simp [execOp, ho, resolve, invoke, builtin, k4]
      rw [if_neg hm] at hp ⊢
      obtain ⟨r, z, rfl, k2, k3⟩ := lenT_sound (P := P) (w := w) (ty := o.type) (ts := ts) (vs := #[ρ x]) (by rw [← Array.getElem?_toList, h2]; rfl) rfl (hev x) (qlen_ok P hp)
      exact ⟨z, k2, by subst ha; simp [execOp, ho, resolve, invoke, builtin, k3]⟩
    · rename_i x y h1; cases hq
      have ha : args = #[x, y] := by apply Array.ext'; simpa using h1
      obtain ⟨r, z, rfl, k2, k3⟩ := mmT_sound (P := P) (w := w) (ty := o.type) (ts := ts) true (hev x) (hev y) (qmm_ok hp)
      simp only [if_true] at k3
      exact ⟨z, k2, by subst ha; simp [execOp, ho, resolve, invoke, builtin, k3]⟩
    · rename_i x y h1; cases hq
      have ha : args = #[x, y] := by apply Array.ext'; simpa using h1
      obtain ⟨r, z, rfl, k2, k3⟩ := mmT_sound (P := P) (w := w) (ty := o.type) (ts := ts) false (hev x) (hev y) (qmm_ok hp)
      simp only [Bool.false_eq_true, if_false] at k3
      exact ⟨z, k2, by subst ha; simp [execOp, ho, resolve, invoke, builtin, k3]⟩
    · cases hq
  · cases hq
end
end Go.Proofs.YtnkdkajllmopaaaGreat.TL

namespace Go.Proofs.YtnkdkajllmopaaaGreat.TL
open Go
set_option linter.unusedVariables false
set_option linter.unusedSimpArgs false

/-- A call: whatever world fits the state, it returns, and a world that fits what K says is there. -/
def callT (P : Program) (f : Nat) (args : List TV) (s : TS) (K : TV → Heap → Prop) : Prop :=
  (∃ fn, P.funcs[f]? = some fn ∧ (fn.name == "runtime.NumGoroutine") = false ∧ fn.body.isNone = false) ∧
  ∀ (e : Ent) (E : Env) (w : World) (vs : List Value), SatH e E s.h w → vs.length = args.length → RVl E args (fun i => vs[i]?) 0 →
    Calls P f vs.toArray w fun en w' => ∃ v r h' E', en = .returned v ∧ K r h' ∧ E.Le E' ∧ SatH e E' h' w' ∧ RV E' r v

def funT (P : Program) (args : List TV) (s : TS) (f : TV) (K : TV → Heap → Prop) : Prop :=
  match f with
  | .v (.func (.func g) a b) => a.size = 0 ∧ b.size = 0 ∧ callT P g args s K
  | .fn (.func g) caps => callT P g (args ++ caps) s K
  | _ => False

/-- A method's call on an interface value. -/
def invT (P : Program) (args : List TV) (s : TS) (x : TV) (name : String) (K : TV → Heap → Prop) : Prop :=
  match x with
  | .ifc t y => match methOf P t name with
    | some g => callT P g (y :: args) s K
    | none => False
  | _ => False

def isSlice (P : Program) (t : Nat) : Bool := match P.underlying t with | some (.slice _) => true | _ => false
def nilT (P : Program) (t : Nat) (neq : Bool) (s : TS) (x y : TV) (K : TV → Heap → Prop) : Prop :=
  match x, y with
  | .sl _ _ _ n, .v (.slice none 0 0) => isSlice P t = true ∧ ∀ β : Bool, (β = true → n = 0) → K (.v (.bool (if neq then !β else β))) s.h
  | _, _ => False

/-- A row's elements are cleared (what they hold then is not said). -/
def clearT (P : Program) (t : Nat) (s : TS) (x : TV) (K : TV → Heap → Prop) : Prop :=
  match x, elemOf P t, P.underlying t with
  | .sl b ver o n, some k, some (.slice ee) => match getH s.h b, zeroOf P ee with
    | some (ver', B), some zs => (ver = ver' ∧ zs.all Value.oneCell' = true ∧ o + n * k ≤ B.cells.length) ∧ K (.tup []) (setH s.h b (ver', ⟨B.k, over B.cells o (List.replicate (n * k) .any)⟩))
    | _, _ => False
  | _, _, _ => False

/-- A row made, of elements of one cell each. -/
def mkT (P : Program) (d t : Nat) (s : TS) (n c : TV) (K : TV → Heap → Prop) : Prop :=
  match n, c, elemOf P t, P.underlying t with
  | .v (.int _ n), .v (.int _ c), some 1, some (.slice ee) => match zeroOf P ee with
    | some [z] => (0 ≤ n ∧ n ≤ c ∧ (byOf P ee : Int) * c ≤ 1099511627776 ∧ c ≤ 1099511627776) ∧ ∀ v, K (.sl d v 0 n.toNat) (setH s.h d (v, ⟨1, List.replicate n.toNat (.v z)⟩))
    | _ => False
  | _, _, _, _ => False
/-- Elements copied into an own row, where there is room for all. -/
def copyT (P : Program) (t ts : Nat) (s : TS) (x y : TV) (K : TV → Heap → Prop) : Prop :=
  match x, elemOf P t with
  | .sl b ver o n, some k => match getH s.h b with
    | some (ver', B) => srcT P ts k s y fun m new => (ver = ver' ∧ m ≤ n ∧ o + m * k ≤ B.cells.length ∧ new.length = m * k) ∧ K (.v (.int .i64 m)) (setH s.h b (ver', ⟨B.k, over B.cells o new⟩))
    | none => False
  | _, _ => False

/-- A text's bytes, as an own row. -/
def s2bT (P : Program) (d a b : Nat) (s : TS) (x : TV) (K : TV → Heap → Prop) : Prop :=
  match x with
  | .v (.string z) => (kdOf P a = .str ∧ kdOf P b = .bytes) ∧ ∀ v, K (.sl d v 0 (sl z).length) (setH s.h d (v, ⟨1, (sl z).map bv⟩))
  | _ => False

def effT (P : Program) (d : Nat) (op : Op) (s : TS) (K : TV → Heap → Prop) : Prop :=
  match op with
  | .alloc t => allocT P d t s K
  | .box _ x => boxT d s (s.ev x) K
  | .buildSlice t n ps => buildSliceT P d t n (ps.toList.map fun p => (p.1, s.ev p.2)) s K
  | .store t a x => storeT P t s (s.ev a) (s.ev x) fun s' => K .any s'.h
  | .call { callee := .builtin .append, args, argTypes } => match args.toList, argTypes.toList with
    | [x, y], [ta, tx] => appT P d ta tx s (s.ev x) (s.ev y) K
    | _, _ => False
  | .call { callee := .builtin .clear, args, argTypes } => match args.toList, argTypes.toList with
    | [x], [t] => clearT P t s (s.ev x) K
    | _, _ => False
  | .makeMap _ none => mapT d s K
  | .mapUpdate t m k x => updT P t s (s.ev m) (s.ev k) (s.ev x) K
  | .call { callee := .builtin .delete, args, argTypes } => match args.toList, argTypes.toList with
    | [m, k], [t, _] => delT P t s (s.ev m) (s.ev k) K
    | _, _ => False
  | .makeSlice t n c => mkT P d t s (s.ev n) (s.ev c) K
  | .convert a b x => s2bT P d a b s (s.ev x) K
  | .call { callee := .builtin .copy, args, argTypes } => match args.toList, argTypes.toList with
    | [x, y], [t, t'] => copyT P t t' s (s.ev x) (s.ev y) K
    | _, _ => False
  | .call { callee := .value f, args, .. } => funT P (args.toList.map s.ev) s (s.ev f) K
  | .call { callee := .invoke x name, args, .. } => invT P (args.toList.map s.ev) s (s.ev x) name K
  | .binOp .eql t x y _ => nilT P t false s (s.ev x) (s.ev y) K
  | .binOp .neq t x y _ => nilT P t true s (s.ev x) (s.ev y) K
  | _ => False

theorem setH_same {h : Heap} {n : Nat} {y : Nat × Blk} (hy : getH h n = some y) : setH h n y = h := by
  induction h with
  | nil => cases hy
  | cons p l ih =>
    obtain ⟨k, x⟩ := p
    simp only [getH] at hy
    simp only [setH]
    by_cases hn : n = k
    · rw [if_pos hn] at hy ⊢
      cases hy
      rw [hn]
    · rw [if_neg hn] at hy ⊢
      rw [ih hy]

/-- A state with another heap, a slot filled. -/
def TS.to (s : TS) (dst : Option Nat) (r : TV) (h : Heap) : TS :=
  { t := match dst with | some d => (d, r) :: s.t | none => s.t, h := h }

/-- When an operation under a guard is done: all of these hold. -/
def guardOf (want : Bool) : TV → Option (List Bool)
  | .v (.bool b) => some [if want then b else !b]
  | .opt g x => match guardOf want x with | some l => some (g :: l) | none => if g = true then none else some [false]
  | _ => none
def allB : List Bool → Bool
  | [] => true
  | g :: l => g && allB l
def impL : List Bool → Prop → Prop
  | [], C => C
  | g :: l, C => g = true → impL l C
def optL : List Bool → TV → TV
  | [], x => x
  | g :: l, x => .opt g (optL l x)
def stripL : List Bool → TV → TV
  | [], x => x
  | g :: l, x => stripL l (strip g x)

def stripS (gs : List Bool) (s : TS) : TS := { t := s.t.map fun p => (p.1, stripL gs p.2), h := s.h }

/-- Two ways, by what a guard says. -/
def guardE (b : Bool) (A B : Prop) : Prop := match b with | true => A | false => B
theorem guardE_true {A B : Prop} : guardE true A B = A := rfl
theorem guardE_false {A B : Prop} : guardE false A B = B := rfl
theorem guardE_fork {b : Bool} {A B : Prop} (h1 : b = true → A) (h2 : b = false → B) : guardE b A B := by cases b; exact h2 rfl; exact h1 rfl

def stepT (P : Program) (ops : Array Oper) (o : Oper) (s : TS) (K : TS → Prop) : Prop :=
  match o.guard with
  | none => match qop P s s.ev o.op with
    | some p => p.1 ∧ K (s.to o.dst p.2 s.h)
    | none => effT P (o.dst.getD 0) o.op s fun r h => K (s.to o.dst r h)
  | some (j, want) => match (((ops[j]?).bind (·.dst)).map (getT s.t)).bind (guardOf want) with
    | some gs => match qop P s (fun x => stripL gs (s.ev x)) o.op with
      | some p => impL gs p.1 ∧ K (s.to o.dst (optL gs p.2) s.h)
      | none => guardE (allB gs) (effT P (o.dst.getD 0) o.op (stripS gs s) fun r h => K (s.to o.dst r h)) (K (s.to o.dst (optL gs .any) s.h))
    | none => False

def opsT (P : Program) (ops : Array Oper) : List Oper → TS → (TS → Prop) → Prop
  | [], s, K => K s
  | o :: l, s, K => stepT P ops o s fun s' => opsT P ops l s' K

section
variable {P : Program} {e : Ent} {E : Env} {s : TS} {w : World}

theorem run_call {ρ : Operand → Value} {o : Oper} {f : Operand} {args : Array Operand} {ts : Array Nat} {g : Nat} {first caps : Array Value} (ho : o.op = .call { callee := .value f, args := args, argTypes := ts }) (hf : ρ f = .func (.func g) first caps)
    (hfn : ∃ fn, P.funcs[g]? = some fn ∧ (fn.name == "runtime.NumGoroutine") = false ∧ fn.body.isNone = false) : (execOp ρ o).run P w = .ok (.enter g ((first ++ args.map ρ) ++ caps)) w := by
  obtain ⟨fn, h1, h2, h3⟩ := hfn
  simp [execOp, ho, resolve, hf, Deferred.ofValue, invoke, callFunc, h1]
  simp at h2
  rw [if_neg h2]
  have h4 : ¬ fn.body = none := by intro hh; rw [hh] at h3; cases h3
  rw [if_neg h4]

theorem run_invoke {ρ : Operand → Value} {o : Oper} {x : Operand} {name : String} {args : Array Operand} {ts : Array Nat} {g t : Nat} {z : Value} (ho : o.op = .call { callee := .invoke x name, args := args, argTypes := ts }) (hx : ρ x = .iface t z)
    (hm : methOf P t name = some g) (hfn : ∃ fn, P.funcs[g]? = some fn ∧ (fn.name == "runtime.NumGoroutine") = false ∧ fn.body.isNone = false) : (execOp ρ o).run P w = .ok (.enter g (#[z] ++ args.map ρ)) w := by
  obtain ⟨fn, h1, h2, h3⟩ := hfn
  have hmeth : ∀ d, (method (d + 1) t z name).run P w = .ok (g, z) w := fun d => by
    unfold methOf at hm
    split at hm
    · rename_i i hi
      split at hm
      · rename_i m hf
        split at hm
        · rename_i f pr hmf
          split at hm
          · rename_i hc
            obtain ⟨hpe, hus, hpr⟩ := hc
            cases hm
            have hp : m.path.toList = [] := by simpa using hpe
            unfold isPtr at hpr
            split at hpr
            · rename_i q hu
              subst hpr
              simp [method, typeInfo, hi, hf, hp, follow, hmf, receiverAt, run_underlying hu, Place.get]
            · rename_i hnp
              subst hpr
              cases hu : P.underlying t with
              | none => rw [hu] at hus; cases hus
              | some u => cases u <;> first | exact absurd hu (hnp _) | simp [method, typeInfo, hi, hf, hp, follow, hmf, receiverAt, run_underlying hu, Place.get]
          · cases hm
        · cases hm
      · cases hm
    · cases hm
  have hext : (#[Value.iface t z] ++ args.map ρ).extract 1 (#[Value.iface t z] ++ args.map ρ).size = args.map ρ := by
    apply Array.ext'
    simp [List.extract_eq_take_drop]
    exact List.take_of_length_le (by simp)
  have h0 : (#[Value.iface t z] ++ args.map ρ)[0]? = some (Value.iface t z) := by
    rw [Array.getElem?_append_left (by simp)]; rfl
  have hd : P.types.size + Made.depth = (P.types.size + Made.depth - 1) + 1 := by simp [Made.depth]
  have hmeth2 := hmeth (P.types.size + Made.depth - 1)
  rw [← hd] at hmeth2
  simp only [execOp, ho, resolve, hx, Sem.run_bind, Sem.run_pure, Result.andThen_ok, invoke, hext, h0, callMethod, run_program, hmeth2]
  simp [callFunc, h1]
  simp at h2
  rw [if_neg h2]
  have h4 : ¬ fn.body = none := by intro hh; rw [hh] at h3; cases h3
  rw [if_neg h4]

theorem callT_wp {f : Nat} {args : List TV} {vs : List Value} {o : Oper} {a : Act} {K : TV → Heap → Prop} {next : Act → World → Prop} {Q : Exit → Act → World → Prop} (H : SatH e E s.h w) (hl : vs.length = args.length) (hv : RVl E args (fun i => vs[i]?) 0)
    (hrun : (execOp a.eval o).run P w = .ok (.enter f vs.toArray) w) (hc : callT P f args s K)
    (hn : ∀ r v h' E' w', K r h' → E.Le E' → SatH e E' h' w' → RV E' r v → next (a.put o.dst v) w') : o.wp P a w next Q := by
  unfold Oper.wp
  rw [hrun, Oper.upon_enter]
  refine (hc.2 e E w vs H hl hv).mono fun en w' hh => ?_
  obtain ⟨v, r, h', E', rfl, h1, h2, h3, h4⟩ := hh
  exact hn r v h' E' w' h1 h2 h3 h4

theorem RVl_map {ev : Operand → TV} {ρ : Operand → Value} (hev : ∀ x, RV E (ev x) (ρ x)) (l : List Operand) : RVl E (l.map ev) (fun i => (l.map ρ)[i]?) 0 := RVl.of fun j x hx => by
  rw [List.getElem?_map] at hx
  obtain ⟨y, hy, rfl⟩ := Option.map_eq_some_iff.1 hx
  exact ⟨ρ y, by simp [hy], hev y⟩

theorem RVl_any (f : Nat → Option Value) (vs : List Value) (h : ∀ j : Nat, j < vs.length → ∃ v, f j = some v) : ∀ (n : Nat), n = vs.length → RVl E (List.replicate n .any) f 0 := fun n hn => RVl.of fun j x hx => by
  have hj := (List.getElem?_eq_some_iff.1 hx).1
  rw [List.getElem?_eq_getElem hj] at hx
  simp at hx hj
  subst hx
  obtain ⟨v, hv⟩ := h j (by omega)
  exact ⟨v, by rw [Nat.zero_add]; exact hv, by simp only [RV]⟩

theorem clearT_sound {t ty : Nat} {x : TV} {u : Value} {K : TV → Heap → Prop} (H : SatH e E s.h w) (hx : RV E x u) (h : clearT P t s x K) : Goes e E K w ((Builtin.clear_ #[t] ty #[u]).run P w) := by
  unfold clearT at h
  split at h
  · rename_i b ver o n k ee hk hu
    split at h
    · rename_i ver' B zs hb hz
      obtain ⟨⟨rfl, hz1, hfit⟩, hK⟩ := h
      obtain ⟨ee', i, z, h1, h2, h3, h4, h5, h6, h7⟩ := elemOf_all hk
      rw [hu] at h1
      cases h1
      have hzz : zs = z.cells.toList := by
        unfold zeroOf at hz
        simp [h4, h6] at hz
        exact hz.symm
      obtain ⟨R, hR, hB⟩ := H.live b ver B hb
      simp only [RV] at hx
      obtain ⟨a, cap, rfl, g1, g2, g3, g4⟩ := hx
      by_cases hn : n = 0
      · subst hn
        have e1 : over B.cells o (List.replicate (0 * k) .any) = B.cells := by simp [over]
        rw [e1, setH_same hb] at hK
        refine ⟨_, _, .tuple #[], w, E, hK, Env.Le.refl E, H, by simp only [RV]; exact ⟨[], rfl, rfl, by simp only [RVl]⟩, ?_⟩
        cases a <;> simp [Builtin.clear_, run_underlying hu]
      · rcases g4 R hR with ⟨_, h9, _⟩ | ⟨q, a', rfl, rfl, h10, h11⟩
        · exact absurd h9 hn
        · obtain rfl := h10.resolve_left (by omega)
          have hnm := real_nm h11
          replace hB := hB.sl h11
          rcases hB with ⟨k0, _, _⟩ | ⟨q', k1, k2, k3, k4, k5⟩
          · cases k0
          cases k1
          have hzl : (Builtin.zeroCells z.cells n).toList.length = n * k := by simp [Builtin.zeroCells, h7]
          have hone : ∀ v ∈ (Builtin.zeroCells z.cells n).toList, v.oneCell' = true := fun v hv => by
            simp only [Builtin.zeroCells, Array.toList_map, List.mem_map] at hv
            obtain ⟨j, hj, rfl⟩ := hv
            have hpos : 0 < z.cells.size := by rw [h7]; exact h3
            have hlt := Nat.mod_lt j hpos
            rw [getElem!_pos z.cells (j % z.cells.size) hlt]
            rw [hzz] at hz1
            exact List.all_eq_true.1 hz1 _ (by simp)
          have hst := run_storeCells_cells (P := P) q.r (q.base + o) (Builtin.zeroCells z.cells n).toList 0 w (fun j hj => (k4 _ (by rw [hzl] at hj; omega)).1) (fun j hj => (k4 _ (by rw [hzl] at hj; omega)).2) hone
          simp only [Nat.add_zero] at hst
          refine ⟨_, _, .tuple #[], _, E, hK, Env.Le.refl E, H.store (new := List.replicate (n * k) .any) hb hR hnm (by simpa using hfit) (by simp [hzl]) (RVl_any _ (Builtin.zeroCells z.cells n).toList (fun j hj => ⟨_, List.getElem?_eq_getElem hj⟩) _ hzl.symm), by simp only [RV]; exact ⟨[], rfl, rfl, by simp only [RVl]⟩, ?_⟩
          obtain ⟨m, rfl⟩ : ∃ m, n = m + 1 := ⟨n - 1, by omega⟩
          simp [Builtin.clear_, run_underlying hu, zeroValue, typeInfo, h4, h6, hst]
    · exact h.elim
  · exact h.elim

theorem mkT_sound {d t : Nat} {n c : TV} {un uc : Value} {K : TV → Heap → Prop} (H : SatH e E s.h w) (hn : RV E n un) (hc : RV E c uc) (h : mkT P d t s n c K) : Goes e E K w ((Instr.makeSlice t un uc).run P w) := by
  unfold mkT at h
  split at h
  · rename_i k1 n' k2 c' ee hk hu
    split at h
    · rename_i z hz
      obtain ⟨⟨g1, g2, g3, g4⟩, hK⟩ := h
      obtain ⟨ee', i, z', h1, h2, h3, h4, h5, h6, h7⟩ := elemOf_all hk
      rw [hu] at h1
      cases h1
      simp only [RV] at hn hc
      subst hn hc
      have hz' : z'.cells.toList = [z] := by
        unfold zeroOf at hz
        simp [h4, h6] at hz
        exact hz
      have hz2 : z'.cells = #[z] := by apply Array.ext'; simpa using hz'
      have hby : byOf P ee = i.bytes := by simp [byOf, h4]
      rw [hby] at g3
      have hr := run_make (P := P) w t ee i z' hu h4 h6 k1 k2 n' c' g1 g2 (by omega) (by omega)
      have hal := H.alloc d 1 (List.replicate n'.toNat (.v z)) (madeCells z'.cells (c'.toNat * i.size)) ee (by rw [size_madeCells, h5, List.length_replicate]; omega) (RVl.of fun j x hx => by
        rw [List.getElem?_replicate] at hx
        split at hx
        · cases hx
          refine ⟨z, ?_, by simp only [RV]⟩
          have hjc : j < c'.toNat := by omega
          simp [madeCells, hz2, h5, hjc, Array.getElem?_range, Nat.mod_one]
        · cases hx)
      refine ⟨_, _, _, _, _, hK (E.c + 1), H.le_slot _ _, hal, ?_, hr⟩
      exact sl_new (q := ⟨w.heap.size, 0, (madeCells z'.cells (c'.toNat * i.size)).size, 1⟩) H (by omega) (fun _ => by simp [size_madeCells, h5])
    · exact h.elim
  · exact h.elim

theorem copyT_sound {t ts ty : Nat} {x y : TV} {u v : Value} {K : TV → Heap → Prop} (H : SatH e E s.h w) (hx : RV E x u) (hy : RV E y v) (h : copyT P t ts s x y K) : Goes e E K w ((Builtin.copy_ #[t, ts] ty #[u, v]).run P w) := by
  unfold copyT at h
  split at h
  · rename_i b ver o n k hk
    split at h
    · rename_i ver' B hb
      obtain ⟨m, new, news, ⟨⟨rfl, g1, g2, g3⟩, hK⟩, hs, hln, hvn⟩ := srcT_sound H hy h
      obtain ⟨ee, i, z, h1, h2, h3, h4, h5, h6, h7⟩ := elemOf_all hk
      obtain ⟨R, hR, hB⟩ := H.live b ver B hb
      simp only [RV] at hx
      obtain ⟨a, cap, rfl, e1, e2, e3, e4⟩ := hx
      have hmin : Nat.min m n = m := Nat.min_eq_left g1
      have hsz : (sizeOf ee).run P w = .ok k w := by simp [sizeOf, typeInfo, h4, h5]
      by_cases hne : news = []
      · subst hne
        have hnew : new = [] := List.eq_nil_of_length_eq_zero (by simpa using hln.symm)
        subst hnew
        have e0 : over B.cells o [] = B.cells := by simp [over]
        rw [e0, setH_same hb] at hK
        refine ⟨_, _, goInt m, w, E, hK, Env.Le.refl E, H, by simp [RV, goInt], ?_⟩
        cases a with
        | none => simp [Builtin.copy_, run_underlying h1, hs.len, hmin, hsz, hs.cells]
        | some a => simp [Builtin.copy_, run_underlying h1, hs.len, hmin, hsz, hs.cells, storeCells]
      · have hmk : 0 < m * k := by
          rw [← hs.newsLen]
          exact List.length_pos_iff.2 hne
        have hn0 : n ≠ 0 := fun hh => by subst hh; have : m = 0 := by omega
                                         subst this; simp at hmk
        rcases e4 R hR with ⟨_, h9, _⟩ | ⟨q, a', rfl, rfl, h10, h11⟩
        · exact absurd h9 hn0
        · obtain rfl := h10.resolve_left (by omega)
          have hnm := real_nm h11
          replace hB := hB.sl h11
          rcases hB with ⟨k0, _, _⟩ | ⟨q', k1, k2, k3, k4, k5⟩
          · cases k0
          cases k1
          have hst := run_storeCells_cells (P := P) q.r (q.base + o) news 0 w (fun j hj => (k4 _ (by have := hs.newsLen; omega)).1) (fun j hj => (k4 _ (by have := hs.newsLen; omega)).2) hs.one
          simp only [Nat.add_zero] at hst
          refine ⟨_, _, goInt m, _, E, hK, Env.Le.refl E, H.store (new := new) hb hR hnm (by rw [g3]; exact g2) hln hvn, by simp [RV, goInt], ?_⟩
          simp [Builtin.copy_, run_underlying h1, hs.len, hmin, hsz, hs.cells, hst]
    · exact h.elim
  · exact h.elim

theorem s2bT_sound {d a b : Nat} {x : TV} {u : Value} {K : TV → Heap → Prop} (H : SatH e E s.h w) (hx : RV E x u) (h : s2bT P d a b s x K) : Goes e E K w ((convert a b u).run P w) := by
  unfold s2bT at h
  split at h
  · rename_i z
    obtain ⟨⟨h1, h2⟩, hK⟩ := h
    simp only [RV] at hx
    subst hx
    obtain ⟨ee, g1, g2⟩ := kdOf_bytes h2
    have hr := Lib.run_convert_string_bytes (P := P) w a b ee z (kdOf_str h1) g1 g2
    have hge := grownCap_ge w z.size 0 ee
    have hsz : (Lib.bytesCells w ee z).size = grownCap w z.size 0 ee := by
      simp only [Lib.bytesCells, Array.size_append, Array.size_map, Array.size_replicate]
      show z.size + (grownCap w z.size 0 ee - z.size) = _
      omega
    have hle := H.le_slot d (some ⟨w.heap.size, 0, grownCap w z.size 0 ee, 1⟩)
    refine ⟨_, _, _, _, E.slot d (some ⟨w.heap.size, 0, grownCap w z.size 0 ee, 1⟩), hK (E.c + 1), hle, ?_, ?_, hr⟩
    · refine H.slot d ⟨1, (sl z).map bv⟩ _ _ (by rw [Lib.bytesWorld_size]; omega) (fun r hr _ => Lib.bytesWorld_at_old w ee z r hr) rfl rfl rfl (fun q hq => ?_) (.inl (.inr ⟨_, rfl, rfl, ?_, fun o ho => ?_, ?_⟩))
      · cases hq; exact ⟨by rw [Lib.bytesWorld_size]; exact Nat.lt_succ_self _, .inr (Nat.le_refl _)⟩
      · simp only [List.length_map, Nat.zero_add]; rw [← size_sl]; exact hge
      · simp only at ho
        have ho2 : o < (Lib.bytesCells w ee z).size := by omega
        simp [World.cell?, World.frozen?, Lib.bytesWorld_at_new, ho2]
        omega
      · refine RVl.of fun j y hy => ?_
        rw [List.getElem?_map] at hy
        obtain ⟨c, hc, rfl⟩ := Option.map_eq_some_iff.1 hy
        have hj : j < z.size := by rw [size_sl]; exact (List.getElem?_eq_some_iff.1 hc).1
        refine ⟨.int .u8 c.toNat, ?_, by simp only [bv, RV]⟩
        simp only [Nat.zero_add]
        rw [Lib.bytesWorld_cell w ee z j hj]
        have : z.data.toList.getD j 0 = c := by simp only [sl] at hc; rw [List.getD_eq_getElem?_getD, hc]; rfl
        rw [this]
    · have hs := sl_new (b := d) (n := (sl z).length) (cap := grownCap w z.size 0 ee) (q := ⟨w.heap.size, 0, grownCap w z.size 0 ee, 1⟩) H (by rw [← size_sl]; exact hge) (fun _ => by simp)
      rw [← size_sl] at hs ⊢
      exact hs
  · exact h.elim

theorem effT_wp {o : Oper} {a : Act} {K : TV → Heap → Prop} {next : Act → World → Prop} {Q : Exit → Act → World → Prop} (H : SatH e E s.h w) (hev : ∀ x, RV E (s.ev x) (a.eval x))
    (hc : effT P (o.dst.getD 0) o.op s K) (hn : ∀ r v h' E' w', K r h' → E.Le E' → SatH e E' h' w' → RV E' r v → next (a.put o.dst v) w') : o.wp P a w next Q := by
  have val : ∀ R : Result Value, Goes e E K w R → (execOp a.eval o).run P w = R.andThen (fun v w' => .ok (.value v) w') → o.wp P a w next Q := fun R hR hrun => by
    obtain ⟨r, h', v, w', E', k1, k2, k3, k4, rfl⟩ := hR
    unfold Oper.wp
    rw [hrun, Result.andThen_ok, Oper.upon_value]
    exact hn r v h' E' w' k1 k2 k3 k4
  unfold effT at hc
  split at hc
  · rename_i t ho
    exact val _ (allocT_sound H hc) (by simp [execOp, ho])
  · rename_i t x ho
    exact val _ (boxT_sound (P := P) (t := t) H (hev x) hc) (by simp [execOp, ho])
  · rename_i t n ps ho
    obtain ⟨m1, m2⟩ := map_parts hev ps
    exact val _ (buildSliceT_sound H m1 m2 hc) (by simp [execOp, ho])
  · rename_i t x y ho
    obtain ⟨h', w', k1, k2, k3⟩ := storeT_sound H (hev x) (hev y) hc
    have hrun : (execOp a.eval o).run P w = .ok .skip w' := by simp [execOp, ho, k3]
    unfold Oper.wp
    rw [hrun, Oper.upon_skip]
    exact hn _ _ _ E w' k1 (Env.Le.refl E) k2 (by simp only [RV])
  · rename_i args ts ho
    split at hc
    · rename_i x y ta tx h1 h2
      have ha : args = #[x, y] := by apply Array.ext'; simpa using h1
      have ht : ts = #[ta, tx] := by apply Array.ext'; simpa using h2
      subst ha ht
      exact val _ (appT_sound (ty := o.type) H (hev x) (hev y) hc) (by simp [execOp, ho, resolve, invoke, builtin])
    · exact hc.elim
  · rename_i args ts ho
    split at hc
    · rename_i x t h1 h2
      have ha : args = #[x] := by apply Array.ext'; simpa using h1
      have ht : ts = #[t] := by apply Array.ext'; simpa using h2
      subst ha ht
      exact val _ (clearT_sound (ty := o.type) H (hev x) hc) (by simp [execOp, ho, resolve, invoke, builtin])
    · exact hc.elim
  · rename_i t ho
    exact val _ (mapT_sound (P := P) (t := t) H hc) (by simp [execOp, ho])
  · rename_i t m k x ho
    obtain ⟨h', w', k1, k2, k3⟩ := updT_sound H (hev m) (hev k) (hev x) hc
    have hrun : (execOp a.eval o).run P w = .ok .skip w' := by simp [execOp, ho, k3]
    unfold Oper.wp
    rw [hrun, Oper.upon_skip]
    exact hn _ _ _ E w' k1 (Env.Le.refl E) k2 (by simp only [RV])
  · rename_i args ts ho
    split at hc
    · rename_i x y tm tk h1 h2
      have ha : args = #[x, y] := by apply Array.ext'; simpa using h1
      have ht : ts = #[tm, tk] := by apply Array.ext'; simpa using h2
      subst ha ht
      exact val _ (delT_sound (tk := tk) (ty := o.type) H (hev x) (hev y) hc) (by simp [execOp, ho, resolve, invoke, builtin])
    · exact hc.elim
  · rename_i t n c ho
    exact val _ (mkT_sound (P := P) (t := t) H (hev n) (hev c) hc) (by simp [execOp, ho])
  · rename_i ta tb x ho
    exact val _ (s2bT_sound (P := P) H (hev x) hc) (by simp [execOp, ho])
  · rename_i args ts ho
    split at hc
    · rename_i x y tm tk h1 h2
      have ha : args = #[x, y] := by apply Array.ext'; simpa using h1
      have ht : ts = #[tm, tk] := by apply Array.ext'; simpa using h2
      subst ha ht
      exact val _ (copyT_sound (ty := o.type) H (hev x) (hev y) hc) (by simp [execOp, ho, resolve, invoke, builtin])
    · exact hc.elim
  · rename_i f args ts ho
    unfold funT at hc
    have hf := hev f
    split at hc
    · rename_i g fi ca hfe
      rw [hfe] at hf
      simp only [RV] at hf
      obtain ⟨h1, h2, hc⟩ := hc
      obtain rfl : fi = #[] := by simpa using h1
      obtain rfl : ca = #[] := by simpa using h2
      refine callT_wp (vs := args.toList.map a.eval) H (by simp) (RVl_map hev args.toList) ?_ hc hn
      rw [run_call ho hf hc.1]
      congr 2
      apply Array.ext'; simp
    · rename_i g caps hfe
      rw [hfe] at hf
      simp only [RV] at hf
      obtain ⟨zs, hz, z1, z2⟩ := hf
      refine callT_wp (vs := args.toList.map a.eval ++ zs) H (by simp [z1]) (RVl.append ?_ ?_) ?_ hc hn
      · refine RVl.mono (Env.Le.refl E) _ _ _ _ (fun j v hj => ?_) (RVl_map hev args.toList)
        rw [List.getElem?_append_left (List.getElem?_eq_some_iff.1 hj).1]; exact hj
      · refine RVl.of fun j x hx => ?_
        obtain ⟨v, k1, k2⟩ := z2.get j x hx
        refine ⟨v, ?_, k2⟩
        rw [List.getElem?_append_right (by simp), ← k1]
        congr 1
        simp
      · rw [run_call ho hz hc.1]
        congr 2
        apply Array.ext'; simp
    · exact hc.elim
  · rename_i x name args ts ho
    unfold invT at hc
    have hx := hev x
    split at hc
    · rename_i t y hxe
      rw [hxe] at hx
      simp only [RV] at hx
      obtain ⟨z, hz, hzy⟩ := hx
      split at hc
      · rename_i g hg
        refine callT_wp (vs := z :: args.toList.map a.eval) H (by simp) ?_ ?_ hc hn
        · simp only [RVl]
          refine ⟨⟨z, rfl, hzy⟩, ?_⟩
          refine RVl.of fun j q hq => ?_
          obtain ⟨v, k1, k2⟩ := (RVl_map hev args.toList).get j q hq
          refine ⟨v, ?_, k2⟩
          rw [← k1]
          rw [show 0 + 1 + j = j + 1 by omega, Nat.zero_add]
          rfl
        · rw [run_invoke ho hz hg hc.1]
          congr 2
          apply Array.ext'; simp
      · exact hc.elim
    · exact hc.elim
  · rename_i t x y t' ho
    unfold nilT at hc
    split at hc
    · rename_i b ver o' n hx hy
      obtain ⟨h1, h2⟩ := hc
      have hxv := hev x
      have hyv := hev y
      rw [hx] at hxv
      rw [hy] at hyv
      simp only [RV] at hxv hyv
      obtain ⟨a', cap, e1, e2, e3, _⟩ := hxv
      unfold isSlice at h1
      split at h1
      · rename_i ee he
        have hrun := run_equal_slice_nil (P := P) w t ee a' n cap he
        refine val (.ok (.bool a'.isNone) w) ⟨_, s.h, _, w, E, h2 a'.isNone (fun hn => ?_), Env.Le.refl E, H, ?_, rfl⟩ ?_
        · have := e3 (by simpa using hn); omega
        · simp [RV]
        · simp [execOp, ho, e1, hyv, eqGuard, binOp, hrun]
      · cases h1
    · exact hc.elim
  · rename_i t x y t' ho
    unfold nilT at hc
    split at hc
    · rename_i b ver o' n hx hy
      obtain ⟨h1, h2⟩ := hc
      have hxv := hev x
      have hyv := hev y
      rw [hx] at hxv
      rw [hy] at hyv
      simp only [RV] at hxv hyv
      obtain ⟨a', cap, e1, e2, e3, _⟩ := hxv
      unfold isSlice at h1
      split at h1
      · rename_i ee he
        have hrun := run_equal_slice_nil (P := P) w t ee a' n cap he
        refine val (.ok (.bool (!a'.isNone)) w) ⟨_, s.h, _, w, E, h2 a'.isNone (fun hn => ?_), Env.Le.refl E, H, ?_, rfl⟩ ?_
        · have := e3 (by simpa using hn); omega
        · simp [RV]
        · simp [execOp, ho, e1, hyv, eqGuard, binOp, hrun]
      · cases h1
    · exact hc.elim
  · exact hc.elim

theorem impL_of {gs : List Bool} {C : Prop} (h : impL gs C) (hg : allB gs = true) : C := by
  induction gs with
  | nil => exact h
  | cons g l ih =>
    simp only [allB, Bool.and_eq_true] at hg
    exact ih (h hg.1) hg.2
theorem RV_optL {E : Env} : ∀ {gs : List Bool} {x : TV} {y : Value}, (allB gs = true → RV E x y) → (allB gs = false → y = undef) → RV E (optL gs x) y
  | [], x, y, h, _ => h rfl
  | g :: l, x, y, h, k => by
    simp only [optL, RV]
    exact ⟨fun hg => RV_optL (fun hl => h (by simp [allB, hg, hl])) (fun hl => k (by simp [allB, hl])), fun hg => k (by simp [allB, hg])⟩
theorem RV_stripL {E : Env} : ∀ {gs : List Bool} {x : TV} {y : Value}, RV E x y → allB gs = true → RV E (stripL gs x) y
  | [], x, y, h, _ => h
  | g :: l, x, y, h, hg => by
    simp only [allB, Bool.and_eq_true] at hg
    simp only [stripL]
    exact RV_stripL (strip_sound h hg.1) hg.2
theorem stripL_any : ∀ gs : List Bool, stripL gs .any = .any
  | [] => rfl
  | g :: l => stripL_any l
theorem getT_strip (gs : List Bool) (n : Nat) : ∀ t : List (Nat × TV), getT (t.map fun p => (p.1, stripL gs p.2)) n = stripL gs (getT t n)
  | [] => (stripL_any gs).symm
  | (k, x) :: t => by
    simp only [List.map_cons, getT]
    split
    · rfl
    · exact getT_strip gs n t
theorem ev_stripS {E : Env} {s : TS} {a : Act} {gs : List Bool} (hG : ∀ g l, gvals g = some l → ∀ o v, l[o]? = some v → E.I g o = some v) (hT : SatT E s.t a.tmps) (hg : allB gs = true) (x : Operand) : RV E ((stripS gs s).ev x) (a.eval x) := by
  refine ev_sound (s := stripS gs s) hG (fun n => ?_) x
  simp only [stripS, getT_strip]
  exact RV_stripL (hT n) hg
/-- What the guard's value says of the world. -/
theorem guard_wanted {E : Env} {want : Bool} : ∀ {x : TV} {v : Value} {gs : List Bool}, guardOf want x = some gs → RV E x v → (allB gs = true ↔ v = .bool want)
  | .v (.bool b), v, gs, h, hv => by
    simp only [guardOf, Option.some.injEq] at h
    subst h
    simp only [RV] at hv
    subst hv
    cases b <;> cases want <;> simp [allB]
  | .opt g x, v, gs, h, hv => by
    simp only [guardOf] at h
    simp only [RV] at hv
    split at h
    · rename_i l hl
      cases h
      cases g with
      | true =>
        have := guard_wanted hl (hv.1 rfl)
        simpa [allB] using this
      | false =>
        rw [hv.2 rfl]
        simp [allB, undef]
    · split at h
      · cases h
      · rename_i hg
        cases h
        rw [hv.2 (by simpa using hg)]
        simp [allB, undef]

theorem put_sat {E E' : Env} {a : Act} {nt : Nat} {dst : Option Nat} {r : TV} {v : Value} {h' : Heap} (hT : SatT E s.t a.tmps) (hE : E.Le E') (hnt : a.tmps.size = nt) (hd : ∀ d, dst = some d → d < nt) (hr : RV E' r v) :
    SatT E' (s.to dst r h').t (a.put dst v).tmps ∧ (a.put dst v).tmps.size = nt ∧ (a.put dst v).defers = a.defers := by
  cases dst with
  | none => exact ⟨hT.mono hE, hnt, rfl⟩
  | some d => exact ⟨(hT.mono hE).put (by rw [hnt]; exact hd d rfl) hr, by simp [Act.put, hnt], rfl⟩

/-- What is there behind a region. -/
def Behind (e : Ent) (E : Env) (nt : Nat) (df : List Deferred) (K : TS → Prop) (ex : Exit) (a' : Act) (w' : World) : Prop :=
  ex = .normal ∧ ∃ s' E', K s' ∧ E.Le E' ∧ SatH e E' s'.h w' ∧ SatT E' s'.t a'.tmps ∧ a'.tmps.size = nt ∧ a'.defers = df

theorem opsT_sound {ops : Array Oper} {nt : Nat} {K : TS → Prop} {df : List Deferred} {E0 : Env} (hdst : ∀ (i : Nat) (o : Oper) (d : Nat), ops[i]? = some o → o.dst = some d → d < nt) :
    ∀ (l : List Nat) (s : TS) (E : Env) (a : Act) (w : World), opsT P ops (l.filterMap fun i => ops[i]?) s K → E0.Le E → SatH e E s.h w → SatT E s.t a.tmps → a.tmps.size = nt → a.defers = df →
      wpOps P ops (Behind e E0 nt df K) l a w
  | [], s, E, a, w, h, h0, H, hT, hn, hd => ⟨rfl, s, E, h, h0, H, hT, hn, hd⟩
  | i :: l, s, E, a, w, h, h0, H, hT, hn, hd => by
    simp only [wpOps]
    cases hi : ops[i]? with
    | none =>
      simp only
      have h' : opsT P ops (l.filterMap fun i => ops[i]?) s K := by simpa [List.filterMap_cons, hi] using h
      exact opsT_sound hdst l s E a w h' h0 H hT hn hd
    | some o =>
      simp only
      have h' : stepT P ops o s fun s' => opsT P ops (l.filterMap fun i => ops[i]?) s' K := by simpa [List.filterMap_cons, hi, opsT] using h
      have hdo : ∀ d, o.dst = some d → d < nt := fun d hd => hdst i o d hi hd
      have next : ∀ r v h' E' w', opsT P ops (l.filterMap fun i => ops[i]?) (s.to o.dst r h') K → E.Le E' → SatH e E' h' w' → RV E' r v → wpOps P ops (Behind e E0 nt df K) l (a.put o.dst v) w' := fun r v h' E' w' k1 k2 k3 k4 => by
        obtain ⟨m1, m2, m3⟩ := put_sat (h' := h') hT k2 hn hdo k4
        exact opsT_sound hdst l _ E' _ _ k1 (h0.trans k2) k3 m1 m2 (m3.trans hd)
      unfold stepT at h'
      split at h'
      · rename_i hg
        have hw : Region.wanted o (yielded ops a.tmps) = true := by simp [Region.wanted, hg]
        rw [if_pos hw]
        refine .inl ?_
        split at h'
        · rename_i p hq
          obtain ⟨v, k1, k2⟩ := qop_sound H (ev_sound H.glo hT) hq h'.1
          unfold Oper.wp
          rw [k2, Oper.upon_value]
          exact next _ _ _ E w h'.2 (Env.Le.refl E) H k1
        · exact effT_wp H (ev_sound H.glo hT) h' next
      · rename_i j want hg
        split at h'
        · rename_i gs hb
          obtain ⟨x, hx, hgs⟩ := Option.bind_eq_some_iff.1 hb
          obtain ⟨d, hd1, hd2⟩ := Option.map_eq_some_iff.1 hx
          have hbv := hT d
          rw [hd2] at hbv
          have hiff := guard_wanted hgs hbv
          have hw : Region.wanted o (yielded ops a.tmps) = allB gs := by
            have h1 : Region.wanted o (yielded ops a.tmps) = true ↔ a.tmps.getD d undef = .bool want := by
              rw [Array.getD_eq_getD_getElem?]
              simp only [Region.wanted, hg, yielded, hd1, Option.bind_some]
              cases hh : a.tmps[d]? with
              | none => simp [undef]
              | some v => cases v <;> simp
            rw [← hiff] at h1
            cases hA : allB gs <;> cases hB : Region.wanted o (yielded ops a.tmps) <;> simp_all
          rw [hw]
          cases ht : allB gs with
          | true =>
            rw [if_pos rfl]
            refine .inl ?_
            split at h'
            · rename_i p hq
              obtain ⟨v, k1, k2⟩ := qop_sound (ρ := a.eval) H (fun x => RV_stripL (ev_sound H.glo hT x) ht) hq (impL_of h'.1 ht)
              unfold Oper.wp
              rw [k2, Oper.upon_value]
              exact next _ _ _ E w h'.2 (Env.Le.refl E) H (RV_optL (fun _ => k1) fun hf => by rw [ht] at hf; cases hf)
            · rw [ht, guardE_true] at h'
              exact effT_wp (s := stripS gs s) H (ev_stripS H.glo hT ht) h' next
          | false =>
            rw [if_neg (by simp)]
            split at h'
            · exact next _ _ _ E w h'.2 (Env.Le.refl E) H (RV_optL (fun hf => by rw [ht] at hf; cases hf) fun _ => rfl)
            · rw [ht, guardE_false] at h'
              exact next _ _ _ E w h' (Env.Le.refl E) H (RV_optL (fun hf => by rw [ht] at hf; cases hf) fun _ => rfl)
        · exact h'.elim
end
end Go.Proofs.YtnkdkajllmopaaaGreat.TL

namespace Go.Proofs.YtnkdkajllmopaaaGreat.TL
open Go
set_option linter.unusedVariables false
set_option linter.unusedSimpArgs false

/-- A region whose order is drawn. -/
def drawT (P : Program) (ops : Array Oper) (s : TS) (K : TS → Prop) : Prop :=
  ∀ (nt : Nat), (∀ (i : Nat) (o : Oper) (d : Nat), ops[i]? = some o → o.dst = some d → d < nt) → ∀ (e : Ent) (E : Env) (w : World) (a : Act), SatH e E s.h w → SatT E s.t a.tmps → a.tmps.size = nt →
    ∀ t, wpOps P ops (Behind e E nt a.defers K) (Region.schedule (P.follows .mixedOrders) ops t) a w

inductive TX where
  | normal
  | exit (i : Nat)
  | ret

def keepT (keep : List Nat) (s : TS) : TS := { s with t := s.t.filter fun p => keep.contains p.1 }

/-- A state says no less than one of the states S. -/
def SLx (s : TS) (S : TS → Prop) : Prop := ∀ (e : Ent) (E : Env) (w : World) (tmps : Array Value), SatH e E s.h w → SatT E s.t tmps → ∃ s' E', S s' ∧ E.Le E' ∧ SatH e E' s'.h w ∧ SatT E' s'.t tmps
theorem SLx.done {s : TS} {S : TS → Prop} (h : S s) : SLx s S := fun _ E _ _ h1 h2 => ⟨s, E, h, Env.Le.refl E, h1, h2⟩
theorem SLx.step {s1 : TS} {S : TS → Prop} (k : SLx s1 S) {e : Ent} {E E1 : Env} {w : World} {tmps : Array Value} (l : E.Le E1) (h1 : SatH e E1 s1.h w) (h2 : SatT E1 s1.t tmps) : ∃ s' E', S s' ∧ E.Le E' ∧ SatH e E' s'.h w ∧ SatT E' s'.t tmps :=
  let ⟨s', E', a, b, c, d⟩ := k e E1 w tmps h1 h2
  ⟨s', E', a, l.trans b, c, d⟩

def thenT (A : TS → Prop) (Q : TX → TS → Prop) : TX → TS → Prop
  | .normal, s => A s
  | e, s => Q e s
def inBlk (i : Nat) (Q : TX → TS → Prop) : TX → TS → Prop
  | .exit j, s => if j = i then Q .normal s else Q (.exit j) s
  | e, s => Q e s
def condT (c : TV) (A B : Prop) : Prop :=
  match c with
  | .v (.bool t) => (t = true → A) ∧ (t = false → B)
  | _ => False

/-- A state of the loop's head, of a smaller number. -/
def again {X : Type} (J : X → Prop) (S : X → TS) (μ : X → Nat) (n : Nat) (s : TS) : Prop := ∃ y, J y ∧ μ y < n ∧ s = S y

/-- A loop, by states that come at its head: of each x one (where J holds of x), and a number that goes down. -/
def loopT (W : (TX → TS → Prop) → TS → Prop) (Q : TX → TS → Prop) (s : TS) : Prop :=
  ∃ (X : Type) (J : X → Prop) (S : X → TS) (μ : X → Nat), SLx s (fun s' => ∃ x, J x ∧ s' = S x) ∧ ∀ x, J x → W (thenT (fun s' => SLx s' (again J S μ (μ x))) Q) (S x)

def wpT (P : Program) (keep : List Nat) : Code → (TX → TS → Prop) → TS → Prop
  | .skip, Q, s => Q .normal s
  | .region _ ops d, Q, s => if d then drawT P ops s fun s' => Q .normal (keepT keep s') else opsT P ops ops.toList s fun s' => Q .normal (keepT keep s')
  | .seq a b, Q, s => wpT P keep a (thenT (wpT P keep b Q) Q) s
  | .cond c a b, Q, s => condT (s.ev c) (wpT P keep a Q s) (wpT P keep b Q s)
  | .block i a, Q, s => wpT P keep a (inBlk i Q) s
  | .loop a, Q, s => loopT (wpT P keep a) Q s
  | .exit i, Q, s => Q (.exit i) s
  | .ret, Q, s => Q .ret s
  | _, _, _ => False

def okC (nt : Nat) : Code → Bool
  | .skip | .exit _ | .ret => true
  | .region _ ops _ => ops.all fun o => match o.dst with | some d => decide (d < nt) | none => true
  | .seq a b => okC nt a && okC nt b
  | .cond _ a b => okC nt a && okC nt b
  | .block _ a | .loop a => okC nt a
  | _ => false

def exRel : TX → Exit → Prop
  | .normal, e => e = .normal
  | .exit i, e => e = .exit i
  | .ret, e => e = .ret

/-- What is there behind code. -/
def After (e : Ent) (E : Env) (nt : Nat) (df : List Deferred) (Q : TX → TS → Prop) (ex : Exit) (a' : Act) (w' : World) : Prop :=
  ∃ tx s' E', exRel tx ex ∧ Q tx s' ∧ E.Le E' ∧ SatH e E' s'.h w' ∧ SatT E' s'.t a'.tmps ∧ a'.tmps.size = nt ∧ a'.defers = df

theorem getT_filter (keep : List Nat) (t : List (Nat × TV)) (n : Nat) : getT (t.filter fun p => keep.contains p.1) n = getT t n ∨ getT (t.filter fun p => keep.contains p.1) n = .any := by
  induction t with
  | nil => exact .inl rfl
  | cons p l ih =>
    obtain ⟨k, x⟩ := p
    by_cases hk : keep.contains k = true
    · simp only [List.filter_cons, hk, if_true, getT]
      by_cases hn : n = k
      · simp [hn]
      · simp only [if_neg hn]; exact ih
    · simp only [List.filter_cons, hk, getT]
      by_cases hn : n = k
      · subst hn
        refine .inr ?_
        have : ∀ l : List (Nat × TV), getT (l.filter fun p => keep.contains p.1) n = .any := fun l => by
          induction l with
          | nil => rfl
          | cons q l ih2 =>
            obtain ⟨m, y⟩ := q
            by_cases hm : keep.contains m = true
            · simp only [List.filter_cons, hm, if_true, getT]
              by_cases hnm : n = m
              · subst hnm; exact absurd hm hk
              · simp only [if_neg hnm]; exact ih2
            · simp only [List.filter_cons, hm]; exact ih2
        exact this l
      · simp only [if_neg hn]; exact ih

theorem SatT.keep {E : Env} {t : List (Nat × TV)} {tmps : Array Value} (h : SatT E t tmps) (keep : List Nat) : SatT E (t.filter fun p => keep.contains p.1) tmps := fun n => by
  rcases getT_filter keep t n with hh | hh
  · rw [hh]; exact h n
  · rw [hh]; simp only [RV]

/-- A loop, by what holds at its head for a number that goes down. -/
theorem wp_loop_down {P : Program} {c : Code} {Q : Exit → Act → World → Prop} (I : Nat → Act → World → Prop) (round : ∀ n a w, I n a w → c.wp P (Exit.then (fun a' w' => ∃ m, m < n ∧ I m a' w') Q) a w) :
    ∀ n a w, I n a w → (Code.loop c).wp P Q a w := by
  intro n a w hI b k cs
  have key : ∀ n a w, I n a w → ∃ e a' w', Q e a' w' ∧ Arrives P (lone (b.at a (.code c :: .inLoop c :: k)) cs w) b k cs e a' w' := by
    intro n
    induction n using Nat.strongRecOn with
    | _ n ih =>
      intro a w hI
      obtain ⟨e, a₁, w₁, hq, harr⟩ := round n a w hI b (.inLoop c :: k) cs
      cases e with
      | normal =>
        obtain ⟨m, hm, hI₁⟩ := hq
        obtain ⟨e₂, a₂, w₂, hq₂, harr₂⟩ := ih m hm a₁ w₁ hI₁
        exact ⟨e₂, a₂, w₂, hq₂, .of_steps (Steps.trans harr (.one step_inLoop)) harr₂⟩
      | exit id => exact ⟨_, a₁, w₁, hq, .pass (x := .inLoop c) rfl (fun _ _ => .inl (by simp)) harr⟩
      | goto l => exact ⟨_, a₁, w₁, hq, .pass (x := .inLoop c) rfl (fun _ _ => .inl (by simp)) harr⟩
      | ret => exact ⟨_, a₁, w₁, hq, .pass (x := .inLoop c) rfl (fun _ _ => .inl (by simp)) harr⟩
      | panic ch => exact ⟨_, a₁, w₁, hq, .pass (x := .inLoop c) rfl (fun _ _ => .inl (by simp)) harr⟩
      | outgrown => exact ⟨_, a₁, w₁, hq, .pass (x := .inLoop c) rfl (fun _ _ => .inl (by simp)) harr⟩
  obtain ⟨e, a', w', hq, harr⟩ := key n a w hI
  exact ⟨e, a', w', hq, .of_steps (.one step_loop) harr⟩

theorem wpT_sound {P : Program} {keep : List Nat} {nt : Nat} {e : Ent} {df : List Deferred} : ∀ (c : Code), okC nt c = true → ∀ (Q : TX → TS → Prop) (s : TS) (E : Env) (w : World) (a : Act),
    wpT P keep c Q s → SatH e E s.h w → SatT E s.t a.tmps → a.tmps.size = nt → a.defers = df → c.wp P (After e E nt df Q) a w
  | .skip, _, Q, s, E, w, a, h, H, hT, hn, hd => wp_skip ⟨.normal, s, E, rfl, h, Env.Le.refl E, H, hT, hn, hd⟩
  | .exit i, _, Q, s, E, w, a, h, H, hT, hn, hd => wp_exit ⟨.exit i, s, E, rfl, h, Env.Le.refl E, H, hT, hn, hd⟩
  | .ret, _, Q, s, E, w, a, h, H, hT, hn, hd => wp_ret ⟨.ret, s, E, rfl, h, Env.Le.refl E, H, hT, hn, hd⟩
  | .region id ops d, hok, Q, s, E, w, a, h, H, hT, hn, hd => by
    have hdst : ∀ (i : Nat) (o : Oper) (d : Nat), ops[i]? = some o → o.dst = some d → d < nt := fun i o d hi hd => by
      simp only [okC] at hok
      rw [Array.all_eq_true_iff_forall_mem] at hok
      have := hok o (Array.mem_of_getElem? hi)
      simpa [hd] using this
    have fin : ∀ ex a' w', Behind e E nt df (fun s' => Q .normal (keepT keep s')) ex a' w' → After e E nt df Q ex a' w' := fun ex a' w' ⟨h1, s', E', h2, h3, h4, h5, h6, h7⟩ =>
      ⟨.normal, _, E', h1, h2, h3, h4, h5.keep keep, h6, h7⟩
    simp only [wpT] at h
    cases d with
    | false =>
      simp only [Bool.false_eq_true, if_false] at h
      have hl : ((List.range ops.size).filterMap fun i => ops[i]?) = ops.toList := by
        apply List.ext_getElem?
        intro j
        have : ∀ n, ((List.range n).filterMap fun i => ops[i]?) = (ops.toList.take n) := fun n => by
          induction n with
          | zero => simp
          | succ n ih =>
            rw [List.range_succ, List.filterMap_append, ih, List.take_add_one]
            congr 1
            cases hh : ops[n]? with
            | none => simp [hh]
            | some o => simp [hh]
        rw [this, List.take_of_length_le (by simp)]
      have := opsT_sound (P := P) (E0 := E) hdst (List.range ops.size) s E a w (by rw [hl]; exact h) (Env.Le.refl E) H hT hn hd
      exact wp_mono (wp_region this) fun ex a' w' hh => fin ex a' w' hh
    | true =>
      simp only [if_true] at h
      exact wp_mono (wp_region_draw fun t => h nt hdst e E { w with drawn := w.drawn + 1 } a H.drew hT hn t) fun ex a' w' hh => fin ex a' w' (hd ▸ hh)
  | .seq x y, hok, Q, s, E, w, a, h, H, hT, hn, hd => by
    simp only [okC, Bool.and_eq_true] at hok
    refine wp_seq (wp_mono (wpT_sound x hok.1 _ s E w a h H hT hn hd) fun ex a' w' hh => ?_)
    obtain ⟨tx, s', E', h1, h2, h3, h4, h5, h6, h7⟩ := hh
    cases tx with
    | normal =>
      cases h1
      refine wp_mono (wpT_sound y hok.2 Q s' E' w' a' h2 h4 h5 h6 h7) fun ex a'' w'' ⟨tx, s'', E'', k1, k2, k3, k4⟩ => ⟨tx, s'', E'', k1, k2, h3.trans k3, k4⟩
    | exit i => cases h1; exact ⟨.exit i, s', E', rfl, h2, h3, h4, h5, h6, h7⟩
    | ret => cases h1; exact ⟨.ret, s', E', rfl, h2, h3, h4, h5, h6, h7⟩
  | .cond c x y, hok, Q, s, E, w, a, h, H, hT, hn, hd => by
    simp only [okC, Bool.and_eq_true] at hok
    simp only [wpT, condT] at h
    have hc := ev_sound H.glo hT c
    split at h
    · rename_i t ht
      rw [ht] at hc
      simp only [RV] at hc
      exact wp_cond_split hc (fun hh => wpT_sound x hok.1 Q s E w a (h.1 hh) H hT hn hd) (fun hh => wpT_sound y hok.2 Q s E w a (h.2 hh) H hT hn hd)
    · exact h.elim
  | .block i x, hok, Q, s, E, w, a, h, H, hT, hn, hd => by
    simp only [okC] at hok
    refine wp_block (wp_mono (wpT_sound x hok _ s E w a h H hT hn hd) fun ex a' w' ⟨tx, s', E', h1, h2, h3⟩ => ?_)
    cases tx with
    | normal => cases h1; exact ⟨.normal, s', E', rfl, h2, h3⟩
    | exit j =>
      cases h1
      simp only [inBlk] at h2
      simp only [Exit.inBlock]
      by_cases hj : j = i
      · rw [if_pos hj] at h2 ⊢; exact ⟨.normal, s', E', rfl, h2, h3⟩
      · rw [if_neg hj] at h2 ⊢; exact ⟨.exit j, s', E', rfl, h2, h3⟩
    | ret => cases h1; exact ⟨.ret, s', E', rfl, h2, h3⟩
  | .loop x, hok, Q, s, E, w, a, h, H, hT, hn, hd => by
    simp only [okC] at hok
    obtain ⟨X, J, S, μ, hS0, hround⟩ := h
    obtain ⟨_, E', ⟨x0, hJ0, rfl⟩, l1, H', hT'⟩ := hS0 e E w a.tmps H hT
    refine wp_loop_down (fun n a' w' => ∃ y E', J y ∧ n = μ y ∧ E.Le E' ∧ SatH e E' (S y).h w' ∧ SatT E' (S y).t a'.tmps ∧ a'.tmps.size = nt ∧ a'.defers = df) ?_ (μ x0) a w ⟨x0, E', hJ0, rfl, l1, H', hT', hn, hd⟩
    rintro n a1 w1 ⟨y, E1, hJ1, rfl, l2, H1, hT1, hn1, hd1⟩
    refine wp_mono (wpT_sound x hok _ (S y) E1 w1 a1 (hround y hJ1) H1 hT1 hn1 hd1) fun ex a2 w2 ⟨tx, s2, E2, h1, h2, l3, H2, hT2, hn2, hd2⟩ => ?_
    cases tx with
    | normal =>
      cases h1
      obtain ⟨_, E3, ⟨z, hJ2, hlt, rfl⟩, l4, H3, hT3⟩ := h2 e E2 w2 a2.tmps H2 hT2
      exact ⟨μ z, hlt, z, E3, hJ2, rfl, l2.trans (l3.trans l4), H3, hT3, hn2, hd2⟩
    | exit j => cases h1; exact ⟨.exit j, s2, E2, rfl, h2, l2.trans l3, H2, hT2, hn2, hd2⟩
    | ret => cases h1; exact ⟨.ret, s2, E2, rfl, h2, l2.trans l3, H2, hT2, hn2, hd2⟩
  | .rangeFunc .., hok, _, _, _, _, _, _, _, _, _, _ => by simp [okC] at hok
  | .scope _, hok, _, _, _, _, _, _, _, _, _, _ => by simp [okC] at hok
  | .label _, hok, _, _, _, _, _, _, _, _, _, _ => by simp [okC] at hok
  | .goto _, hok, _, _, _, _, _, _, _, _, _, _ => by simp [okC] at hok
  | .refuse _, hok, _, _, _, _, _, _, _, _, _, _ => by simp [okC] at hok

end Go.Proofs.YtnkdkajllmopaaaGreat.TL

namespace Go.Proofs.YtnkdkajllmopaaaGreat.TL
open Go
set_option linter.unusedVariables false
set_option linter.unusedSimpArgs false

def argsT (args : List TV) : List (Nat × TV) := args.zipIdx.map fun p => (p.2, p.1)

theorem getT_args (args : List TV) (n : Nat) : getT (argsT args) n = args.getD n .any := by
  have key : ∀ (args : List TV) (k n : Nat), getT ((args.zipIdx k).map fun p => (p.2, p.1)) n = if k ≤ n then args.getD (n - k) .any else .any := by
    intro args
    induction args with
    | nil => intro k n; simp [getT]
    | cons x l ih =>
      intro k n
      simp only [List.zipIdx_cons, List.map_cons, getT, ih]
      by_cases h : n = k
      · subst h; simp
      · rw [if_neg h]
        by_cases h2 : k ≤ n
        · rw [if_pos (by omega), if_pos h2, show n - k = (n - (k + 1)) + 1 by omega]; simp
        · rw [if_neg (by omega), if_neg h2]
  simpa [argsT] using key args 0 n

/-- A function's results. -/
def resOne (P : Program) (s : TS) : ResultVar → PT
  | .tmp t => (True, getT s.t t)
  | .cell a t => qload P s t (getT s.t a)
def resL (P : Program) (s : TS) : List ResultVar → Prop × List TV
  | [] => (True, [])
  | r :: l => ((resOne P s r).1 ∧ (resL P s l).1, (resOne P s r).2 :: (resL P s l).2)
def oneT : List TV → TV
  | [x] => x
  | l => .tup l
def restH (ids : List Nat) (h : Heap) : Heap := h.filter fun p => ids.contains p.1
def retT (P : Program) (rs : List ResultVar) (ids : List Nat) (K : TV → Heap → Prop) : TX → TS → Prop
  | .exit _, _ => False
  | _, s => (resL P s rs).1 ∧ K (oneT (resL P s rs).2) (restH ids s.h)

theorem getH_restH (ids : List Nat) (h : Heap) (n : Nat) : getH (restH ids h) n = if ids.contains n then getH h n else none := by
  induction h with
  | nil => simp [restH, getH]
  | cons p l ih =>
    obtain ⟨k, x⟩ := p
    simp only [restH] at ih
    simp only [restH, List.filter_cons]
    by_cases hk : ids.contains k = true
    · rw [if_pos hk]
      simp only [getH, ih]
      by_cases hn : n = k
      · subst hn; rw [if_pos rfl, if_pos rfl, if_pos hk]
      · rw [if_neg hn, if_neg hn]
    · rw [if_neg hk, ih]
      by_cases hn : n = k
      · subst hn; rw [if_neg hk, if_neg hk]
      · simp only [getH, if_neg hn]

def resSem (tmps : Array Value) : ResultVar → Sem Value
  | .tmp t => pure (tmps.getD t undef)
  | .cell a t => do loadVar t (← asAddr (tmps.getD a undef))

section
variable {P : Program} {e : Ent} {E : Env} {s : TS} {w : World}

def Env.rest (E : Env) (ids : List Nat) : Env := { E with ρ := fun x => if ids.contains x then E.ρ x else none }
theorem Env.le_rest (E : Env) (ids : List Nat) : E.Le (E.rest ids) := ⟨Nat.le_refl _, fun _ _ _ x => x, fun x ver R hx _ => by
  simp only [Env.rest] at hx
  split at hx
  · exact hx
  · cases hx⟩
theorem SatH.rest {h : Heap} (H : SatH e E h w) (ids : List Nat) : SatH e (E.rest ids) (restH ids h) w := by
  have hρ : ∀ x y, (E.rest ids).ρ x = some y → E.ρ x = some y := fun x y hx => by
    simp only [Env.rest] at hx
    split at hx
    · exact hx
    · cases hx
  refine ⟨H.imm, fun x ver B hx => ?_, fun x hx => ?_, fun x ver R hx => H.vers x ver R (hρ _ _ hx), fun x ver q hx => H.ownd x ver q (hρ _ _ hx), fun x y ver ver' q q' hx hy => H.apart x y ver ver' q q' (hρ _ _ hx) (hρ _ _ hy), ?_⟩
  · rw [getH_restH] at hx
    split at hx
    · rename_i hc
      obtain ⟨R, h1, h2⟩ := H.live x ver B hx
      exact ⟨R, by simp only [Env.rest]; rw [if_pos hc]; exact h1, h2.mono (Env.le_rest E ids) fun _ _ => rfl⟩
    · cases hx
  · rw [getH_restH] at hx
    simp only [Env.rest]
    split
    · rename_i hc; rw [if_pos hc] at hx; exact H.dead x hx
    · rfl
  · exact ⟨H.gr.size, H.gr.frame, H.gr.os, H.gr.tape, H.gr.output, H.gr.le.trans (Env.le_rest E ids), H.gr.newI⟩

theorem resOne_sound {tmps : Array Value} (H : SatH e E s.h w) (hT : SatT E s.t tmps) {r : ResultVar} (h : (resOne P s r).1) :
    ∃ v, RV E (resOne P s r).2 v ∧ (resSem tmps r).run P w = .ok v w := by
  cases r with
  | tmp t => exact ⟨_, hT t, rfl⟩
  | cell a t =>
    simp only [resOne] at h ⊢
    obtain ⟨r, v, rfl, h2, h3⟩ := loadT_sound H (hT a) (qload_ok P s h)
    refine ⟨v, h2, ?_⟩
    have hl := qload_ok P s h
    obtain ⟨_, _, ha⟩ := hl
    obtain ⟨rr, o, cells, hy, _, _⟩ := addrCells_sound H (hT a) ha
    rw [hy] at h3
    simpa [resSem, hy, Instr.loadAt, Instr.sureAddr, asAddr] using h3

theorem resL_sound {tmps : Array Value} (H : SatH e E s.h w) (hT : SatT E s.t tmps) : ∀ (rs : List ResultVar), (resL P s rs).1 →
    ∃ vs : List Value, vs.length = rs.length ∧ (resL P s rs).2.length = rs.length ∧ RVl E (resL P s rs).2 (fun i => vs[i]?) 0 ∧
      (rs.mapM (resSem tmps)).run P w = .ok vs w
  | [], _ => ⟨[], rfl, rfl, by simp only [resL, RVl], by simp⟩
  | r :: rs, h => by
    simp only [resL] at h ⊢
    obtain ⟨v, h1, h2⟩ := resOne_sound H hT h.1
    obtain ⟨vs, k1, k2, k3, k4⟩ := resL_sound H hT rs h.2
    refine ⟨v :: vs, by simp [k1], by simp [k2], ?_, ?_⟩
    · simp only [RVl]
      refine ⟨⟨v, rfl, h1⟩, RVl.of fun j x hx => ?_⟩
      obtain ⟨u, u1, u2⟩ := k3.get j x hx
      refine ⟨u, ?_, u2⟩
      rw [← u1, Nat.add_comm 0 1, Nat.add_comm 1 j, Nat.zero_add]
      simp
    · simp only [List.mapM_cons, Sem.run_bind, h2, Result.andThen_ok, k4, Sem.run_pure]

theorem results_sound {fn : Func} {tmps : Array Value} (H : SatH e E s.h w) (hT : SatT E s.t tmps) (h : (resL P s fn.results.toList).1) :
    ∃ v, RV E (oneT (resL P s fn.results.toList).2) v ∧ (results fn tmps).run P w = .ok v w := by
  obtain ⟨vs, k1, k2, k3, k4⟩ := resL_sound H hT fn.results.toList h
  have hm : (fn.results.mapM (resSem tmps)).run P w = .ok vs.toArray w := by
    rw [Array.mapM_eq_mapM_toList]
    simp only [Sem.run_map, k4, Result.andThen_ok]
  unfold results
  rw [Sem.run_bind]
  have : ∀ (f : ResultVar → Sem Value), f = resSem tmps → (fn.results.mapM f).run P w = .ok vs.toArray w := fun f hf => by rw [hf]; exact hm
  rw [this _ (by funext r; cases r <;> rfl)]
  simp only [Result.andThen_ok, Sem.run_pure]
  generalize (resL P s fn.results.toList).2 = l at k2 k3
  match l, vs, k1, k2, k3 with
  | [x], [v], _, _, h3 => exact ⟨v, by simp only [oneT]; simpa [RVl] using h3, by simp⟩
  | [], [], _, _, h3 => exact ⟨.tuple #[], by simp only [oneT, RV]; exact ⟨[], rfl, rfl, h3⟩, by simp⟩
  | x :: y :: l, v :: u :: vs, e1, e2, h3 => exact ⟨.tuple (v :: u :: vs).toArray, by simp only [oneT, RV]; exact ⟨_, rfl, by simp at e1 e2 ⊢; omega, h3⟩, by simp⟩
  | [], _ :: _, e1, e2, _ => simp at e1 e2; omega
  | _ :: _, [], e1, e2, _ => simp at e1 e2; omega
  | [x], _ :: _ :: _, e1, e2, _ => simp at e1 e2; omega
  | _ :: _ :: _, [_], e1, e2, _ => simp at e1 e2; omega

/-- A CALL OUT OF THE FUNCTION's CODE. -/
theorem callT_of_body {f : Nat} {fn : Func} {code : Code} {args : List TV} {h0 : Heap} {K : TV → Heap → Prop} (keep ids : List Nat) (hf : P.funcs[f]? = some fn) (hb : fn.body = some code) (hnm : (fn.name == "runtime.NumGoroutine") = false)
    (hok : okC fn.ntmps code = true) (hnt : decide (args.length ≤ fn.ntmps) = true) (h : wpT P keep code (retT P fn.results.toList ids K) ⟨argsT args, h0⟩) : callT P f args ⟨[], h0⟩ K := by
  refine ⟨⟨fn, hf, hnm, by rw [hb]; rfl⟩, fun e E w vs H hl hv => ?_⟩
  refine calls_of_wp hf hb ?_
  have hnt := of_decide_eq_true hnt
  have hsz : (vs.toArray ++ Array.replicate (fn.ntmps - vs.toArray.size) undef).size = fn.ntmps := by simp; omega
  refine wp_mono (wpT_sound (e := e) (df := []) code hok _ _ E w _ h H (fun n => ?_) hsz rfl) fun ex a' w' ⟨tx, s', E', h1, h2, l1, H1, hT1, hn1, hd1⟩ => ?_
  · rw [getT_args]
    by_cases hn : n < args.length
    · obtain ⟨v, k1, k2⟩ := hv.get n args[n] (List.getElem?_eq_getElem hn)
      have : (vs.toArray ++ Array.replicate (fn.ntmps - vs.toArray.size) undef).getD n undef = v := by
        rw [Array.getD_eq_getD_getElem?, Array.getElem?_append_left (by simp; omega)]
        simp at k1
        simp [k1]
      rw [this]
      simpa [List.getD, hn] using k2
    · have : args.getD n .any = TV.any := by simp [List.getD, List.getElem?_eq_none (Nat.le_of_not_lt hn)]
      rw [this]; simp only [RV]
  · have fin : (resL P s' fn.results.toList).1 ∧ K (oneT (resL P s' fn.results.toList).2) (restH ids s'.h) → ∃ v, (results fn a'.tmps).run P w' = .ok v w' ∧ ∃ v' r h' E', Ending.returned v = .returned v' ∧ K r h' ∧ E.Le E' ∧ SatH e E' h' w' ∧ RV E' r v' := fun ⟨k1, k2⟩ => by
      obtain ⟨v, k3, k4⟩ := results_sound H1 hT1 k1
      exact ⟨v, k4, v, _, _, _, rfl, k2, l1.trans (Env.le_rest E' ids), H1.rest ids, RV.mono (Env.le_rest E' ids) _ _ k3⟩
    cases tx with
    | normal => cases h1; exact ⟨hd1, fin h2⟩
    | ret => cases h1; exact ⟨hd1, fin h2⟩
    | exit i => exact h2.elim
end

/- Other numbers. -/
mutual
def renT (τ : Nat → Option Nat) : TV → TV
  | .at b ver o => match τ b with | some j => .at j ver o | none => .any
  | .sl b ver o n => match τ b with | some j => .sl j ver o n | none => .any
  | .mp b ver => match τ b with | some j => .mp j ver | none => .any
  | .agg l => .agg (renL τ l)
  | .tup l => .tup (renL τ l)
  | .ifc t x => .ifc t (renT τ x)
  | .fn f c => .fn f (renL τ c)
  | .opt g x => .opt g (renT τ x)
  | .v x => .v x
  | .isl c n => .isl c n
  | .iat c => .iat c
  | .any => .any
def renL (τ : Nat → Option Nat) : List TV → List TV
  | [] => []
  | x :: l => renT τ x :: renL τ l
end
theorem renL_length (τ : Nat → Option Nat) : ∀ l : List TV, (renL τ l).length = l.length
  | [] => rfl
  | x :: l => by simp only [renL, List.length_cons, renL_length τ l]
mutual
/-- No own block is named. -/
def Clo : TV → Prop
  | .at .. | .sl .. | .mp .. => False
  | .isl c _ | .iat c | .fn _ c | .agg c | .tup c => CloL c
  | .ifc _ x | .opt _ x => Clo x
  | .v _ | .any => True
def CloL : List TV → Prop
  | [] => True
  | x :: l => Clo x ∧ CloL l
end
mutual
/-- What is renamed as a whole: behind addresses that never change no own block is named. -/
def okT (m : Nat → Prop) : TV → Prop
  | .at b .. | .sl b .. | .mp b .. => m b
  | .isl c _ | .iat c => CloL c
  | .fn _ c | .agg c | .tup c => okL m c
  | .ifc _ x | .opt _ x => okT m x
  | .v _ | .any => True
def okL (m : Nat → Prop) : List TV → Prop
  | [] => True
  | x :: l => okT m x ∧ okL m l
end

theorem CloL_iff : ∀ {l : List TV}, CloL l ↔ ∀ x ∈ l, Clo x
  | [] => by simp [CloL]
  | x :: l => by simp [CloL, CloL_iff]

mutual
theorem RV_clo {E E' : Env} (hI : ∀ r o v, E.I r o = some v → E'.I r o = some v) : ∀ (x : TV) (y : Value), Clo x → RV E x y → RV E' x y
  | .any, _, _, _ => by simp only [RV]
  | .v _, _, _, hx => by simpa only [RV] using hx
  | .at _ _ _, _, hc, _ => by simp only [Clo] at hc
  | .sl _ _ _ _, _, hc, _ => by simp only [Clo] at hc
  | .mp _ _, _, hc, _ => by simp only [Clo] at hc
  | .isl cells _, _, hc, hx => by
    simp only [Clo] at hc
    simp only [RV] at hx ⊢
    rcases hx with h0 | ⟨a, cap, h1, h2, h3⟩
    · exact .inl h0
    · refine .inr ⟨a, cap, h1, h2, ?_⟩
      rcases h3 with h3 | ⟨h3, h4⟩
      · exact .inl h3
      · exact .inr ⟨h3, RVl_clo hI cells _ _ _ hc (fun o v => hI _ o v) h4⟩
  | .iat cells, _, hc, hx => by
    simp only [Clo] at hc
    simp only [RV] at hx ⊢
    obtain ⟨a, h1, h3, h4⟩ := hx
    exact ⟨a, h1, h3, RVl_clo hI cells _ _ _ hc (fun o v => hI _ o v) h4⟩
  | .ifc _ x, _, hc, hx => by
    simp only [Clo] at hc
    simp only [RV] at hx ⊢
    obtain ⟨z, h1, h2⟩ := hx
    exact ⟨z, h1, RV_clo hI x z hc h2⟩
  | .fn _ caps, _, hc, hx => by
    simp only [Clo] at hc
    simp only [RV] at hx ⊢
    obtain ⟨zs, h1, h2, h3⟩ := hx
    exact ⟨zs, h1, h2, RVl_clo hI caps _ _ _ hc (fun _ _ x => x) h3⟩
  | .agg l, _, hc, hx => by
    simp only [Clo] at hc
    simp only [RV] at hx ⊢
    obtain ⟨zs, h1, h2, h3⟩ := hx
    exact ⟨zs, h1, h2, RVl_clo hI l _ _ _ hc (fun _ _ x => x) h3⟩
  | .tup l, _, hc, hx => by
    simp only [Clo] at hc
    simp only [RV] at hx ⊢
    obtain ⟨zs, h1, h2, h3⟩ := hx
    exact ⟨zs, h1, h2, RVl_clo hI l _ _ _ hc (fun _ _ x => x) h3⟩
  | .opt _ x, y, hc, hx => by
    simp only [Clo] at hc
    simp only [RV] at hx ⊢
    exact ⟨fun hg => RV_clo hI x y hc (hx.1 hg), hx.2⟩
theorem RVl_clo {E E' : Env} (hI : ∀ r o v, E.I r o = some v → E'.I r o = some v) : ∀ (l : List TV) (f f' : Nat → Option Value) (o : Nat), CloL l → (∀ o v, f o = some v → f' o = some v) → RVl E l f o → RVl E' l f' o
  | [], _, _, _, _, _, _ => by simp only [RVl]
  | x :: l, f, f', o, hc, hf, hx => by
    simp only [CloL] at hc
    simp only [RVl] at hx ⊢
    obtain ⟨⟨v, h1, h2⟩, h3⟩ := hx
    exact ⟨⟨v, hf _ _ h1, RV_clo hI x v hc.1 h2⟩, RVl_clo hI l f f' (o + 1) hc.2 hf h3⟩
end

mutual
/-- Towards other numbers. -/
theorem RV_ren {τ : Nat → Option Nat} {m : Nat → Prop} {E E' : Env} (hI : ∀ r o v, E.I r o = some v → E'.I r o = some v) (hc : E.c ≤ E'.c) (hρ : ∀ b j, τ b = some j → ∀ ver R, ver ≤ E.c → E'.ρ j = some (ver, R) → E.ρ b = some (ver, R)) :
    ∀ (x : TV) (y : Value), okT m x → RV E x y → RV E' (renT τ x) y
  | .any, _, _, _ => by simp only [renT, RV]
  | .v _, _, _, hx => by simpa only [renT, RV] using hx
  | .at b ver o, y, _, hx => by
    simp only [renT]
    cases hb : τ b with
    | none => simp only [RV]
    | some j =>
      simp only [RV] at hx ⊢
      obtain ⟨p, h1, h2, h3⟩ := hx
      exact ⟨p, h1, Nat.le_trans h2 hc, fun R hR => h3 R (hρ b j hb ver R h2 hR)⟩
  | .mp b ver, y, _, hx => by
    simp only [renT]
    cases hb : τ b with
    | none => simp only [RV]
    | some j =>
      simp only [RV] at hx ⊢
      obtain ⟨p, h1, h2, h3⟩ := hx
      exact ⟨p, h1, Nat.le_trans h2 hc, fun R hR => h3 R (hρ b j hb ver R h2 hR)⟩
  | .sl b ver o n, y, _, hx => by
    simp only [renT]
    cases hb : τ b with
    | none => simp only [RV]
    | some j =>
      simp only [RV] at hx ⊢
      obtain ⟨a, cap, h1, h2, h4, h5, h3⟩ := hx
      exact ⟨a, cap, h1, h2, h4, Nat.le_trans h5 hc, fun R hR => h3 R (hρ b j hb ver R h5 hR)⟩
  | .isl c n, y, hok, hx => by simp only [renT]; exact RV_clo hI _ y (by simpa only [okT, Clo] using hok) hx
  | .iat c, y, hok, hx => by simp only [renT]; exact RV_clo hI _ y (by simpa only [okT, Clo] using hok) hx
  | .ifc _ x, _, hok, hx => by
    simp only [okT] at hok
    simp only [renT, RV] at hx ⊢
    obtain ⟨z, h1, h2⟩ := hx
    exact ⟨z, h1, RV_ren hI hc hρ x z hok h2⟩
  | .fn _ l, _, hok, hx => by
    simp only [okT] at hok
    simp only [renT, RV] at hx ⊢
    obtain ⟨zs, h1, h2, h3⟩ := hx
    obtain ⟨k1, k2⟩ := RVl_ren hI hc hρ l _ _ hok h3
    exact ⟨zs, h1, by rw [k1]; exact h2, k2⟩
  | .agg l, _, hok, hx => by
    simp only [okT] at hok
    simp only [renT, RV] at hx ⊢
    obtain ⟨zs, h1, h2, h3⟩ := hx
    obtain ⟨k1, k2⟩ := RVl_ren hI hc hρ l _ _ hok h3
    exact ⟨zs, h1, by rw [k1]; exact h2, k2⟩
  | .tup l, _, hok, hx => by
    simp only [okT] at hok
    simp only [renT, RV] at hx ⊢
    obtain ⟨zs, h1, h2, h3⟩ := hx
    obtain ⟨k1, k2⟩ := RVl_ren hI hc hρ l _ _ hok h3
    exact ⟨zs, h1, by rw [k1]; exact h2, k2⟩
  | .opt _ x, y, hok, hx => by
    simp only [okT] at hok
    simp only [renT, RV] at hx ⊢
    exact ⟨fun hg => RV_ren hI hc hρ x y hok (hx.1 hg), hx.2⟩
theorem RVl_ren {τ : Nat → Option Nat} {m : Nat → Prop} {E E' : Env} (hI : ∀ r o v, E.I r o = some v → E'.I r o = some v) (hc : E.c ≤ E'.c) (hρ : ∀ b j, τ b = some j → ∀ ver R, ver ≤ E.c → E'.ρ j = some (ver, R) → E.ρ b = some (ver, R)) :
    ∀ (l : List TV) (f : Nat → Option Value) (o : Nat), okL m l → RVl E l f o → (renL τ l).length = l.length ∧ RVl E' (renL τ l) f o
  | [], _, _, _, _ => by simp only [renL, RVl, and_self]
  | x :: l, f, o, hok, hx => by
    simp only [okL] at hok
    simp only [renL, RVl] at hx ⊢
    obtain ⟨⟨v, h1, h2⟩, h3⟩ := hx
    obtain ⟨k1, k2⟩ := RVl_ren hI hc hρ l f (o + 1) hok.2 h3
    exact ⟨by simp [k1], ⟨v, h1, RV_ren hI hc hρ x v hok.1 h2⟩, k2⟩
end

mutual
/-- Back from other numbers. -/
theorem RV_unren {τ : Nat → Option Nat} {E E' : Env} (hI : ∀ r o v, E.I r o = some v → E'.I r o = some v) (hc : E.c ≤ E'.c) (hρ : ∀ b j, τ b = some j → ∀ ver R, E'.ρ b = some (ver, R) → E.ρ j = some (ver, R)) :
    ∀ (x : TV) (y : Value), okT (fun b => (τ b).isSome = true) x → RV E (renT τ x) y → RV E' x y
  | .any, _, _, _ => by simp only [RV]
  | .v _, _, _, hx => by simpa only [renT, RV] using hx
  | .at b ver o, y, hok, hx => by
    simp only [okT] at hok
    obtain ⟨j, hj⟩ := Option.isSome_iff_exists.1 hok
    simp only [renT, hj, RV] at hx ⊢
    obtain ⟨p, h1, h2, h3⟩ := hx
    exact ⟨p, h1, Nat.le_trans h2 hc, fun R hR => h3 R (hρ b j hj ver R hR)⟩
  | .mp b ver, y, hok, hx => by
    simp only [okT] at hok
    obtain ⟨j, hj⟩ := Option.isSome_iff_exists.1 hok
    simp only [renT, hj, RV] at hx ⊢
    obtain ⟨p, h1, h2, h3⟩ := hx
    exact ⟨p, h1, Nat.le_trans h2 hc, fun R hR => h3 R (hρ b j hj ver R hR)⟩
  | .sl b ver o n, y, hok, hx => by
    simp only [okT] at hok
    obtain ⟨j, hj⟩ := Option.isSome_iff_exists.1 hok
    simp only [renT, hj, RV] at hx ⊢
    obtain ⟨a, cap, h1, h2, h4, h5, h3⟩ := hx
    exact ⟨a, cap, h1, h2, h4, Nat.le_trans h5 hc, fun R hR => h3 R (hρ b j hj ver R hR)⟩
  | .isl c n, y, hok, hx => by simp only [renT] at hx; exact RV_clo hI _ y (by simpa only [okT, Clo] using hok) hx
  | .iat c, y, hok, hx => by simp only [renT] at hx; exact RV_clo hI _ y (by simpa only [okT, Clo] using hok) hx
  | .ifc _ x, _, hok, hx => by
    simp only [okT] at hok
    simp only [renT, RV] at hx ⊢
    obtain ⟨z, h1, h2⟩ := hx
    exact ⟨z, h1, RV_unren hI hc hρ x z hok h2⟩
  | .fn _ l, _, hok, hx => by
    simp only [okT] at hok
    simp only [renT, RV] at hx ⊢
    obtain ⟨zs, h1, h2, h3⟩ := hx
    obtain ⟨k1, k2⟩ := RVl_unren hI hc hρ l _ _ hok h3
    exact ⟨zs, h1, by rw [← k1]; exact h2, k2⟩
  | .agg l, _, hok, hx => by
    simp only [okT] at hok
    simp only [renT, RV] at hx ⊢
    obtain ⟨zs, h1, h2, h3⟩ := hx
    obtain ⟨k1, k2⟩ := RVl_unren hI hc hρ l _ _ hok h3
    exact ⟨zs, h1, by rw [← k1]; exact h2, k2⟩
  | .tup l, _, hok, hx => by
    simp only [okT] at hok
    simp only [renT, RV] at hx ⊢
    obtain ⟨zs, h1, h2, h3⟩ := hx
    obtain ⟨k1, k2⟩ := RVl_unren hI hc hρ l _ _ hok h3
    exact ⟨zs, h1, by rw [← k1]; exact h2, k2⟩
  | .opt _ x, y, hok, hx => by
    simp only [okT] at hok
    simp only [renT, RV] at hx ⊢
    exact ⟨fun hg => RV_unren hI hc hρ x y hok (hx.1 hg), hx.2⟩
theorem RVl_unren {τ : Nat → Option Nat} {E E' : Env} (hI : ∀ r o v, E.I r o = some v → E'.I r o = some v) (hc : E.c ≤ E'.c) (hρ : ∀ b j, τ b = some j → ∀ ver R, E'.ρ b = some (ver, R) → E.ρ j = some (ver, R)) :
    ∀ (l : List TV) (f : Nat → Option Value) (o : Nat), okL (fun b => (τ b).isSome = true) l → RVl E (renL τ l) f o → (renL τ l).length = l.length ∧ RVl E' l f o
  | [], _, _, _, _ => by simp only [renL, RVl, and_self]
  | x :: l, f, o, hok, hx => by
    simp only [okL] at hok
    simp only [renL, RVl] at hx ⊢
    obtain ⟨⟨v, h1, h2⟩, h3⟩ := hx
    obtain ⟨k1, k2⟩ := RVl_unren hI hc hρ l f (o + 1) hok.2 h3
    exact ⟨by simp [k1], ⟨v, h1, RV_unren hI hc hρ x v hok.1 h2⟩, k2⟩
end
end Go.Proofs.YtnkdkajllmopaaaGreat.TL

