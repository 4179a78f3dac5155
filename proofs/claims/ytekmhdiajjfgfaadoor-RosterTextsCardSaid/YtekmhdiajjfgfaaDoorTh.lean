/- Own words, part 6: appends. No program is named here. -/
import Derived.Test.YtekmhdiajjfgfaaDoorTg
namespace Go.Proofs.YtekmhdiajjfgfaaDoor.TL
open Go
set_option linter.unusedVariables false
set_option linter.unusedSimpArgs false

/-- All are single cells. -/
def AllC (l : List TV) : Prop := ∀ x ∈ l, cellV x = true

section
variable {P : Program} {e : Ent} {E : Env} {s : TS} {w : World}

/-- What is appended: how many elements, their cells. -/
def srcT (P : Program) (t k : Nat) (s : TS) (x : TV) (K : Nat → List TV → Prop) : Prop :=
  match x with
  | .v (.string z) => kdOf P t = .str ∧ k = 1 ∧ K (sl z).length ((sl z).map bv)
  | .v (.slice none 0 0) => elemOf P t = some k ∧ K 0 []
  | .sl b ver o m => match getH s.h b with
    | some (ver', B) => (ver = ver' ∧ elemOf P t = some k ∧ m * k ≤ (B.cells.drop o).length ∧ AllC ((B.cells.drop o).take (m * k))) ∧ K m ((B.cells.drop o).take (m * k))
    | none => False
  | .isl c m => (elemOf P t = some k ∧ m * k ≤ c.length ∧ AllC (c.take (m * k))) ∧ K m (c.take (m * k))
  | _ => False

theorem one_of_vals {E : Env} {l : List TV} {news : List Value} (h : AllC l) (hl : news.length = l.length) (hv : RVl E l (fun i => news[i]?) 0) : ∀ u ∈ news, u.oneCell' = true := fun u hu => by
  obtain ⟨j, hj, rfl⟩ := List.getElem_of_mem hu
  obtain ⟨v', k1, k2⟩ := hv.get j (l[j]'(by omega)) (List.getElem?_eq_getElem _)
  rw [Nat.zero_add, List.getElem?_eq_getElem hj] at k1
  cases k1
  exact (cellV_one k2 (h _ (List.getElem_mem _))).1

theorem srcT_sound {t k : Nat} {x : TV} {u : Value} {K : Nat → List TV → Prop} (H : SatH e E s.h w) (hx : RV E x u) (h : srcT P t k s x K) :
    ∃ m l news, K m l ∧ Src P k t u m news w ∧ news.length = l.length ∧ RVl E l (fun i => news[i]?) 0 := by
  unfold srcT at h
  split at h
  · rename_i z
    obtain ⟨hk, rfl, hK⟩ := h
    simp only [RV] at hx; subst hx
    refine ⟨_, _, byteCells z, hK, ?_, by simp [byteCells, sl], ?_⟩
    · rw [← size_sl]; exact Src.ofString w (kdOf_str hk) z
    · refine RVl.of fun j y hy => ?_
      rw [List.getElem?_map] at hy
      obtain ⟨b, hb, rfl⟩ := Option.map_eq_some_iff.1 hy
      refine ⟨.int .u8 b.toNat, ?_, by simp only [bv, RV]⟩
      simp only [Nat.zero_add, byteCells, List.getElem?_map]
      simp only [sl] at hb
      rw [hb]; rfl
  · obtain ⟨hk, hK⟩ := h
    obtain ⟨ee, h1, _, _⟩ := elemOf_spec hk
    simp only [RV] at hx; subst hx
    exact ⟨0, [], [], hK, Src.ofNil w h1 0, rfl, by simp only [RVl]⟩
  · rename_i b ver o m
    split at h
    · rename_i ver' B hb
      obtain ⟨⟨rfl, hk, hl, hall⟩, hK⟩ := h
      obtain ⟨ee, h1, _, _⟩ := elemOf_spec hk
      obtain ⟨R, hR, hB⟩ := H.live b ver B hb
      simp only [RV] at hx
      obtain ⟨a, cap, rfl, h6, h60, h7, h8⟩ := hx
      rcases h8 R hR with ⟨rfl, rfl, rfl, rfl⟩ | ⟨q, a', rfl, rfl, h10, h11⟩
      · refine ⟨_, _, [], hK, ?_, by simp, by simp only [Nat.zero_mul, List.take_zero, RVl]⟩
        exact Src.ofNil w h1 0
      · rcases h10 with rfl | rfl
        · obtain rfl : m = 0 := by omega
          refine ⟨_, _, [], hK, ?_, by simp, by simp only [Nat.zero_mul, List.take_zero, RVl]⟩
          exact Src.ofSlice w h1 a' 0 0 [] (by simp) (fun j u hj => by simp at hj) (fun u hu => by cases hu)
        · rcases hB with ⟨k0, _, _⟩ | ⟨q', k1, k2, k3, k4, k5⟩
          · cases k0
          cases k1
          obtain ⟨news, n1, n2, n3⟩ := ((k5.drop o).take (m * k)).vals
          refine ⟨_, _, news, hK, ?_, n1, n3⟩
          exact Src.ofSlice w h1 ⟨q.r, q.base + o, none⟩ m cap news (by rw [n1, List.length_take]; omega) (fun j u hj => by rw [Addr.add_lit]; exact n2 j u hj) (one_of_vals hall n1 n3)
    · exact h.elim
  · rename_i c m
    obtain ⟨⟨hk, hl, hall⟩, hK⟩ := h
    obtain ⟨ee, h1, _, _⟩ := elemOf_spec hk
    simp only [RV] at hx
    rcases hx with ⟨rfl, rfl, rfl⟩ | ⟨a, cap, rfl, h2, h3⟩
    · exact ⟨_, _, [], hK, Src.ofNil w h1 0, by simp, by simp only [Nat.zero_mul, List.take_zero, RVl]⟩
    · rcases h3 with rfl | ⟨h3, h4⟩
      · have hm : m * k = 0 := by simpa using hl
        refine ⟨_, _, [], hK, ?_, by simp, by simp only [List.take_nil, RVl]⟩
        exact Src.ofSlice w h1 a m cap [] (by simpa using hm.symm) (fun j u hj => by simp at hj) (fun u hu => by cases hu)
      · obtain ⟨news, n1, n2, n3⟩ := (h4.take (m * k)).vals
        refine ⟨_, _, news, hK, ?_, n1, n3⟩
        exact Src.ofSlice w h1 a m cap news (by rw [n1, List.length_take]; omega) (fun j u hj => by rw [add_spot _ _ h3]; exact H.imm _ _ _ (n2 j u hj)) (one_of_vals hall n1 n3)
  · exact h.elim

/-- What lies behind what is appended. -/
def tailT (cells : List TV) (j : Nat) : List TV := if cells.length ≤ j then [] else cells.drop j
theorem tailT_eq (cells : List TV) (j : Nat) : tailT cells j = cells.drop j := by
  unfold tailT
  split
  · rw [List.drop_eq_nil_of_le ‹_›]
  · rfl

def appT (P : Program) (d ta tx : Nat) (s : TS) (x y : TV) (K : TV → Heap → Prop) : Prop :=
  match elemOf P ta, P.underlying ta with
  | some k, some (.slice ee) => srcT P tx k s y fun m new => match x with
    | .v (.slice none 0 0) => m * byOf P ee ≤ 1099511627776 ∧ m ≤ 1099511627776 ∧ ∀ v, K (.sl d v 0 m) (setH s.h d (v, ⟨k, new⟩))
    | .sl b ver o n => match getH s.h b with
      | some (ver', B) => (ver = ver' ∧ B.k = k ∧ n * k ≤ (B.cells.drop o).length) ∧ (n + m) * byOf P ee ≤ 1099511627776 ∧ n + m ≤ 1099511627776 ∧
          ∀ v, K (.sl b v 0 (n + m)) (setH s.h b (v, ⟨k, (B.cells.drop o).take (n * k) ++ (new ++ tailT (B.cells.drop o) (n * k + new.length))⟩))
      | none => False
    | _ => False
  | _, _ => False

theorem nil_new (H : SatH e E s.h w) {b : Nat} : RV (E.slot b none) (.sl b (E.c + 1) 0 0) (.slice none 0 0) := by
  simp only [RV]
  refine ⟨none, 0, rfl, Nat.le_refl _, by simp, by simp [Env.slot], fun R hR => ?_⟩
  simp [Env.slot] at hR
  exact .inl (by simp [← hR])

/-- An append that makes a new row, for slot b. -/
theorem app_grow (H : SatH e E s.h w) {b ta tx ty ee k m n sCap : Nat} {i : TypeInfo} {z : Value} {base : Option Addr} {yv : Value} {olds news : List Value} {lo ln : List TV} {K : TV → Heap → Prop}
    (h1 : P.underlying ta = some (.slice ee)) (h3 : 0 < k) (hi : P.info? ee = some i) (hik : i.size = k) (hz : i.zero = some z) (hzk : z.cells.size = k)
    (hs : Src P k tx yv m news w) (hold : (Builtin.firstCells k n (.slice base n sCap)).run P w.drew = .ok olds.toArray w.drew) (ho : olds.length = n * k) (hlo : olds.length = lo.length) (hvo : RVl E lo (fun i => olds[i]?) 0)
    (hln : news.length = ln.length) (hvn : RVl E ln (fun i => news[i]?) 0) (hg : sCap < n + m) (hby : (n + m) * i.bytes ≤ 1099511627776) (hm : n + m ≤ 1099511627776)
    (hK : ∀ v, K (.sl b v 0 (n + m)) (setH s.h b (v, ⟨k, lo ++ ln⟩))) :
    Goes e E K w ((Builtin.append_ #[ta, tx] ty #[.slice base n sCap, yv]).run P w) := by
  have hrun := run_append_grow_src (P := P) w ta tx ty ee i z h1 hi hz base n sCap olds (by rw [hik]; exact hold) yv m news (by rw [hik]; exact hs) hg (by omega) (growslice_fits hg (by omega))
  have hge := grownCap_ge w (n + m) sCap ee
  have hnl := hs.newsLen
  have hA := (H.drew).alloc b k (lo ++ ln) ((olds ++ news).toArray ++ Builtin.zeroCells z.cells (grownCap w (n + m) sCap ee - (n + m))) ee (by simp; omega) (RVl.append (RVl.mono (Env.Le.refl E) _ _ _ _ (fun j v hj => by
      have hjl := (List.getElem?_eq_some_iff.1 hj).1
      rw [Array.getElem?_append_left (by simp; omega)]
      simp [List.getElem?_append_left hjl, hj]) hvo) (by
    refine RVl.of fun j x hx => ?_
    obtain ⟨v, k1, k2⟩ := hvn.get j x hx
    rw [Nat.zero_add] at k1
    have hjl := (List.getElem?_eq_some_iff.1 k1).1
    refine ⟨v, ?_, k2⟩
    rw [Array.getElem?_append_left (by simp; omega)]
    simp only [List.getElem?_toArray]
    rw [List.getElem?_append_right (by omega), ← k1]
    congr 1
    omega))
  refine ⟨_, _, _, _, _, hK _, H.le_slot _ _, hA, ?_, hrun⟩
  refine sl_new H (q := ⟨w.heap.size, 0, _, k⟩) hge (fun _ => ?_)
  simp only [Array.size_append, List.size_toArray, List.length_append, size_zeroCells, hzk, ho, hnl, ← Nat.add_mul, Nat.zero_add]
  congr 1; omega

theorem appT_sound {d ta tx ty : Nat} {x y : TV} {u v : Value} {K : TV → Heap → Prop} (H : SatH e E s.h w) (hx : RV E x u) (hy : RV E y v) (h : appT P d ta tx s x y K) :
    Goes e E K w ((Builtin.append_ #[ta, tx] ty #[u, v]).run P w) := by
  unfold appT at h
  split at h
  · rename_i k ee hk hu
    obtain ⟨ee', i, z, h1, h2, h3, hi, hik, hz, hzk⟩ := elemOf_all hk
    rw [hu] at h1
    cases h1
    have hby : byOf P ee = i.bytes := by simp [byOf, hi]
    rw [hby] at h
    obtain ⟨m, new, news, hK, hs, hln, hvn⟩ := srcT_sound H hy h
    have hnl := hs.newsLen
    split at hK
    · simp only [RV] at hx; subst hx
      obtain ⟨c1, c2, hK⟩ := hK
      by_cases hm : m = 0
      · subst hm
        obtain rfl : news = [] := List.eq_nil_of_length_eq_zero (by simpa using hnl)
        obtain rfl : new = [] := List.eq_nil_of_length_eq_zero (by simpa using hln.symm)
        have hr := run_append_nothing (P := P) w ta tx ty ee i hu hi none 0 0 (Nat.le_refl _) v (by rw [hik]; exact hs)
        exact ⟨_, _, _, _, _, hK _, H.le_slot _ _, H.nil d k (by omega), nil_new H, hr⟩
      · refine app_grow (b := d) (n := 0) (lo := []) (olds := []) H hu h3 hi hik hz hzk hs (run_firstCells_none w.drew k 0 0 0) (by simp) rfl (by simp only [RVl]) hln hvn (by omega) (by simpa using c1) (by simpa using c2) ?_
        simpa using hK
    · rename_i b ver o n
      split at hK
      · rename_i ver' B hb
        obtain ⟨⟨rfl, rfl, hl⟩, c1, c2, hK⟩ := hK
        obtain ⟨R, hR, hB⟩ := H.live b ver B hb
        simp only [RV] at hx
        obtain ⟨a, cap, rfl, h6, h60, h7, h8⟩ := hx
        simp only [tailT_eq] at hK
        rcases h8 R hR with ⟨rfl, rfl, rfl, rfl⟩ | ⟨q, a', rfl, rfl, h10, h11⟩
        · have hnil : B.cells = [] := by
            rcases hB with ⟨_, _, k0⟩ | ⟨q', k1, _⟩
            · exact k0
            · cases k1
          simp only [hnil, List.drop_nil, List.append_nil] at hK hl
          by_cases hm : m = 0
          · subst hm
            obtain rfl : news = [] := List.eq_nil_of_length_eq_zero (by simpa using hnl)
            obtain rfl : new = [] := List.eq_nil_of_length_eq_zero (by simpa using hln.symm)
            have hr := run_append_nothing (P := P) w ta tx ty ee i hu hi none 0 0 (Nat.le_refl _) v (by rw [hik]; exact hs)
            simp only [Nat.zero_mul, List.take_nil, List.append_nil] at hK
            exact ⟨_, _, _, _, _, hK _, H.le_slot _ _, H.nil b B.k (by omega), nil_new H, hr⟩
          · simp only [Nat.zero_mul, List.take_nil, List.nil_append] at hK
            exact app_grow (n := 0) (lo := []) (olds := []) H hu h3 hi hik hz hzk hs (run_firstCells_none w.drew B.k 0 0 0) (by simp) rfl (by simp only [RVl]) hln hvn (by omega) c1 c2 hK
        · rcases hB with ⟨k0, _, _⟩ | ⟨q', k1, k2, k3, k4, k5⟩
          · cases k0
          cases k1
          have h110 := h11 (by omega)
          rw [k2] at h110
          by_cases hroom : n + m ≤ cap
          · -- there is room
            by_cases hm : m = 0 ∧ cap = 0
            · obtain ⟨rfl, rfl⟩ := hm
              obtain rfl : n = 0 := by omega
              obtain rfl : news = [] := List.eq_nil_of_length_eq_zero (by simpa using hnl)
              obtain rfl : new = [] := List.eq_nil_of_length_eq_zero (by simpa using hln.symm)
              have hr := run_append_nothing (P := P) w ta tx ty ee i hu hi (some a') 0 0 (Nat.le_refl _) v (by rw [hik]; exact hs)
              have hdn : List.drop o B.cells = [] := List.drop_eq_nil_of_le (by omega)
              simp only [hdn, Nat.zero_mul, List.take_nil, List.drop_nil, List.append_nil] at hK
              refine ⟨_, _, _, _, E.slot b (some ⟨q.r, q.sz, q.sz, B.k⟩), hK _, H.le_slot _ _, H.slot b _ _ w (Nat.le_refl _) (fun _ _ _ => rfl) rfl rfl rfl (fun q' hq' => ?_) (.inr ⟨_, rfl, rfl, by simp, k4, by simp only [RVl]⟩), ?_, hr⟩
              · cases hq'
                exact ⟨(H.ownd _ _ _ hR).1, .inl ⟨_, _, hR, rfl⟩⟩
              · simp only [RV]
                refine ⟨_, _, rfl, Nat.le_refl _, (fun hh => by cases hh), by simp [Env.slot], fun R hR' => ?_⟩
                simp [Env.slot] at hR'
                exact .inr ⟨_, _, hR'.symm, rfl, .inl rfl, fun _ => by simp⟩
            · have hcap : cap ≠ 0 := fun hc => hm ⟨by omega, hc⟩
              obtain rfl := h10.resolve_left hcap
              have hfit := h110
              have hnk : (n + m) * B.k ≤ cap * B.k := Nat.mul_le_mul_right _ hroom
              rw [Nat.add_mul] at hnk
              have hin : ∀ j, j < news.length → (w.cell? ⟨q.r, q.base + o + n * i.size + j, none⟩).isSome = true ∧ w.frozen? ⟨q.r, q.base + o + n * i.size + j, none⟩ = false := fun j hj => k4 _ (by rw [hik]; omega)
              have hr := run_append_room_src (P := P) w ta tx ty ee i hu hi q.r (q.base + o) n cap v m news (by rw [hik]; exact hs) hroom (fun j hj => (hin j hj).1) (fun j hj => (hin j hj).2)
              rw [hik] at hr hin
              have hcin := World.cell?_setCells_in q.r news (q.base + o + n * B.k) w (fun j hj => (hin j hj).1)
              have hcout : ∀ j, (j < q.base + o + n * B.k ∨ q.base + o + n * B.k + news.length ≤ j) → (w.setCells q.r (q.base + o + n * B.k) news).cell? ⟨q.r, j, none⟩ = w.cell? ⟨q.r, j, none⟩ := fun j hj =>
                World.cell?_setCells_out q.r news _ w ⟨q.r, j, none⟩ (fun _ _ => hj)
              obtain ⟨r1, r2, r3⟩ := rest_setCells q.r news (q.base + o + n * B.k) w
              refine ⟨_, _, _, _, E.slot b (some ⟨q.r, q.base + o, q.sz, B.k⟩), hK _, H.le_slot _ _, H.slot b _ _ _ (by rw [size_setCells]; exact Nat.le_refl _) (fun r hr hne => heap_setCells_ne _ _ _ _ _ (hne _ _ hR _ rfl rfl)) r1 r2 r3 (fun q' hq' => ?_) (.inr ⟨_, rfl, rfl, ?_, fun j hj => ?_, ?_⟩), ?_, hr⟩
              · cases hq'
                exact ⟨by rw [size_setCells]; exact (H.ownd _ _ _ hR).1, .inl ⟨_, _, hR, rfl⟩⟩
              · simp only [List.length_append, List.length_take, List.length_drop]
                simp only [List.length_drop] at hl
                omega
              · rw [World.frozen?_setCells]
                refine ⟨?_, (k4 j hj).2⟩
                by_cases hj2 : q.base + o + n * B.k ≤ j ∧ j < q.base + o + n * B.k + news.length
                · have := hcin (j - (q.base + o + n * B.k)) (by omega)
                  rw [show q.base + o + n * B.k + (j - (q.base + o + n * B.k)) = j by omega] at this
                  rw [this]; rfl
                · rw [hcout j (by omega)]; exact (k4 j hj).1
              · refine RVl.mono (H.le_slot _ _) _ _ _ _ (fun _ _ hh => hh) (RVl.append (RVl.of fun j y hy => ?_) (RVl.append (RVl.of fun j y hy => ?_) (RVl.of fun j y hy => ?_)))
                · have hjl := (List.getElem?_eq_some_iff.1 hy).1
                  simp only [List.length_take] at hjl
                  obtain ⟨vv, e1, e2⟩ := ((k5.drop o).take (n * B.k)).get j y hy
                  exact ⟨vv, by rw [hcout _ (by simp only; omega)]; exact e1, e2⟩
                · obtain ⟨vv, e1, e2⟩ := hvn.get j y hy
                  rw [Nat.zero_add] at e1
                  obtain ⟨hjl, rfl⟩ := List.getElem?_eq_some_iff.1 e1
                  refine ⟨_, ?_, e2⟩
                  have hlen : ((B.cells.drop o).take (n * B.k)).length = n * B.k := by rw [List.length_take]; omega
                  rw [hlen]
                  exact hcin j hjl
                · have hlen : ((B.cells.drop o).take (n * B.k)).length = n * B.k := by rw [List.length_take]; omega
                  rw [hlen]
                  rw [List.getElem?_drop] at hy
                  obtain ⟨vv, e1, e2⟩ := (k5.drop o).get _ y hy
                  refine ⟨vv, ?_, e2⟩
                  rw [hcout _ (by simp only; omega), ← e1]
                  simp only
                  congr 2
                  omega
              · refine sl_new H (q := ⟨q.r, q.base + o, q.sz, B.k⟩) hroom (fun _ => hfit)
          · have hmul := Nat.mul_le_mul_right B.k (show cap ≤ n + m by omega)
            rw [Nat.add_mul] at hmul
            have htl : List.drop (n * B.k + new.length) (List.drop o B.cells) = [] := List.drop_eq_nil_of_le (by rw [List.length_drop]; omega)
            simp only [htl, List.append_nil] at hK
            obtain ⟨olds, o1, o2, o3⟩ := ((k5.drop o).take (n * B.k)).vals
            have holen : olds.length = n * B.k := by rw [o1, List.length_take]; omega
            have hold : (Builtin.firstCells B.k n (.slice (some a') n cap)).run P w.drew = .ok olds.toArray w.drew := by
              refine run_firstCells_some w.drew B.k n a' n cap olds holen (fun j vv hj => ?_)
              rcases h10 with rfl | rfl
              · obtain rfl : n = 0 := by omega
                obtain rfl : olds = [] := List.eq_nil_of_length_eq_zero (by simpa using holen)
                simp at hj
              · rw [Addr.add_lit]; exact o2 j vv hj
            exact app_grow H hu h3 hi hik hz hzk hs hold holen o1 o3 hln hvn (by omega) c1 c2 hK
      · exact hK.elim
    · exact hK.elim
  · exact h.elim
end
end Go.Proofs.YtekmhdiajjfgfaaDoor.TL
