/- Own words, part 21: what a call is handed, opened: of numbers, texts, truth values, structs, arrays and slices of such. No program is named here. -/
import Derived.Test.YtnkdkajllmopaaaGreatTw
import Derived.Deep.Slices
import Derived.OpenShut
import Derived.SizedLaws
import Derived.WideShapes
namespace Go.Proofs.YtnkdkajllmopaaaGreat.TL
open Go Go.RowKit Go.Deep
set_option linter.unusedVariables false
set_option linter.unusedSimpArgs false

/-- No string, no row that is handed is longer. -/
def lim : Nat := 140737488351232
inductive Sh where
  | int (k : IntKind)
  | str
  | bool
  | st (l : List Sh)
  | sl (e : Sh)

mutual
def Sh.sz : Sh → Nat
  | .st l => Sh.szL l
  | _ => 1
def Sh.szL : List Sh → Nat
  | [] => 0
  | a :: l => a.sz + Sh.szL l
end

/-- At least so many bytes. -/
def kindB : IntKind → Nat
  | .i64 => 8
  | .u64 => 8
  | .i32 => 4
  | .u32 => 4
  | _ => 1
mutual
def Sh.sb : Sh → Nat
  | .int k => kindB k
  | .str => 16
  | .bool => 1
  | .st l => Sh.sbL l
  | .sl _ => 24
def Sh.sbL : List Sh → Nat
  | [] => 0
  | a :: l => a.sb + Sh.sbL l
end

def consec : Nat → List (Nat × Sh) → Bool
  | _, [] => true
  | n, (o, s) :: l => decide (o = n) && consec (n + s.sz) l

def shOf (P : Program) : Nat → Nat → Option Sh
  | 0, _ => none
  | f + 1, t => match P.underlying t with
    | some (.int k) => some (.int k)
    | some .string => some .str
    | some .bool => some .bool
    | some (.struct fs) => (fs.toList.mapM fun x => (shOf P f x.type).bind fun s => if s.sz = P.cellsOf x.type then some (x.offset, s) else none).bind fun l => if consec 0 l = true ∧ Sh.szL (l.map (·.2)) = P.cellsOf t then some (.st (l.map (·.2))) else none
    | some (.array n e) => (shOf P f e).bind fun s => if s.sz = P.cellsOf e ∧ n * s.sz = P.cellsOf t then some (.st (List.replicate n s)) else none
    | some (.slice e) => (shOf P f e).bind fun s => if s.sz = P.cellsOf e ∧ 0 < s.sz ∧ 0 < P.bytesOf e ∧ s.sb ≤ P.bytesOf e then some (.sl s) else none
    | _ => none

mutual
def ShV : Sh → List TV → Prop
  | .int k, c => ∃ n, (Lit.int k n).wf = true ∧ c = [.v (.int k n)]
  | .str, c => ∃ s : ByteArray, s.size ≤ lim ∧ c = [.v (.string s)]
  | .bool, c => ∃ b, c = [.v (.bool b)]
  | .st l, c => ShL l c
  | .sl e, c => ∃ els : List (List TV), (∀ x ∈ els, ShV e x) ∧ (els.length ≤ lim ∧ els.length * e.sb ≤ lim) ∧ c = [.isl els.flatten els.length]
def ShL : List Sh → List TV → Prop
  | [], c => c = []
  | a :: l, c => ∃ x y, c = x ++ y ∧ ShV a x ∧ ShL l y
end

mutual
theorem ShV_len : ∀ (s : Sh) (c : List TV), ShV s c → c.length = s.sz
  | .int k, c, h => by simp only [ShV] at h; obtain ⟨n, _, rfl⟩ := h; rfl
  | .str, c, h => by simp only [ShV] at h; obtain ⟨n, _, rfl⟩ := h; rfl
  | .bool, c, h => by simp only [ShV] at h; obtain ⟨n, rfl⟩ := h; rfl
  | .st l, c, h => by simp only [ShV] at h; simp only [Sh.sz]; exact ShL_len l c h
  | .sl e, c, h => by simp only [ShV] at h; obtain ⟨n, _, _, rfl⟩ := h; rfl
theorem ShL_len : ∀ (l : List Sh) (c : List TV), ShL l c → c.length = Sh.szL l
  | [], c, h => by simp only [ShL] at h; subst h; rfl
  | a :: l, c, h => by
    simp only [ShL] at h
    obtain ⟨x, y, rfl, h1, h2⟩ := h
    simp only [Sh.szL, List.length_append, ShV_len a x h1, ShL_len l y h2]
end

theorem choose_fin {α : Type} {p : Nat → α → Prop} : ∀ (n : Nat), (∀ i, i < n → ∃ y, p i y) → ∃ l : List α, l.length = n ∧ ∀ (i : Nat) (y : α), l[i]? = some y → p i y
  | 0, _ => ⟨[], rfl, fun i y h => by simp at h⟩
  | n + 1, h => by
    obtain ⟨l, h1, h2⟩ := choose_fin n fun i hi => h i (by omega)
    obtain ⟨y, hy⟩ := h n (by omega)
    refine ⟨l ++ [y], by simp [h1], fun i z hz => ?_⟩
    rw [List.getElem?_append] at hz
    split at hz
    · exact h2 i z hz
    · rename_i hi
      have hlt := (List.getElem?_eq_some_iff.1 hz).1
      simp at hlt
      have : i = n := by omega
      subst this
      rw [h1, Nat.sub_self] at hz
      simp at hz
      exact hz ▸ hy

theorem flatten_at {α : Type} {k : Nat} : ∀ (els : List (List α)), (∀ x ∈ els, x.length = k) → ∀ (j : Nat) (y : α), els.flatten[j]? = some y → ∃ i r c, j = i * k + r ∧ r < k ∧ els[i]? = some c ∧ c[r]? = some y
  | [], _, j, y, h => by simp at h
  | c :: els, hk, j, y, h => by
    simp only [List.flatten_cons] at h
    have hc := hk c List.mem_cons_self
    rw [List.getElem?_append] at h
    split at h
    · exact ⟨0, j, c, by simp, by omega, rfl, h⟩
    · rename_i hj
      obtain ⟨i, r, c', e1, e2, e3, e4⟩ := flatten_at els (fun x hx => hk x (List.mem_cons_of_mem _ hx)) _ y h
      refine ⟨i + 1, r, c', ?_, e2, by simpa using e3, e4⟩
      rw [Nat.add_mul]
      omega

section
variable {P : Program} {H : Type} {enc : TypeId × Value → H} {w : World} {base : Nat} {spare : Nat → Bool} {held : Bool}

theorem consec_open {E : Env} {f : Nat → Option Value} : ∀ (l : List (Nat × Sh)) (n : Nat), consec n l = true → (∀ p ∈ l, ∃ c, ShV p.2 c ∧ RVl E c f p.1) → ∃ c, ShL (l.map (·.2)) c ∧ RVl E c f n
  | [], n, _, _ => ⟨[], by simp only [List.map_nil, ShL], by simp only [RVl]⟩
  | (o, s) :: l, n, hc, h => by
    simp only [consec, Bool.and_eq_true, decide_eq_true_eq] at hc
    obtain ⟨rfl, hc⟩ := hc
    obtain ⟨c, h1, h2⟩ := h (o, s) List.mem_cons_self
    obtain ⟨d, h3, h4⟩ := consec_open l _ hc fun p hp => h p (List.mem_cons_of_mem _ hp)
    refine ⟨c ++ d, by simp only [List.map_cons, ShL]; exact ⟨c, d, rfl, h1, h3⟩, RVl.append h2 ?_⟩
    rw [ShV_len s c h1]
    exact h4

theorem RVl_part {E : Env} {c : List TV} {cs : List Value} {o k : Nat} (h : RVl E c (fun i => ((cs.drop o).take k)[i]?) 0) : RVl E c (fun i => cs[i]?) o := RVl.of fun j x hx => by
  obtain ⟨v, h1, h2⟩ := h.get j x hx
  rw [Nat.zero_add, List.getElem?_take] at h1
  split at h1
  · rw [List.getElem?_drop] at h1; exact ⟨v, h1, h2⟩
  · cases h1

theorem repl_open {E : Env} {f : Nat → Option Value} {s : Sh} : ∀ (n o : Nat), (∀ i, i < n → ∃ c, ShV s c ∧ RVl E c f (o + i * s.sz)) → ∃ c, ShL (List.replicate n s) c ∧ RVl E c f o
  | 0, o, _ => ⟨[], by simp only [List.replicate_zero, ShL], by simp only [RVl]⟩
  | n + 1, o, h => by
    obtain ⟨c, h1, h2⟩ := h 0 (by omega)
    obtain ⟨d, h3, h4⟩ := repl_open n (o + s.sz) fun i hi => by
      have := h (i + 1) (by omega)
      rw [Nat.add_mul, Nat.one_mul] at this
      rwa [show o + s.sz + i * s.sz = o + (i * s.sz + s.sz) by omega]
    refine ⟨c ++ d, by simp only [List.replicate_succ, ShL]; exact ⟨c, d, rfl, h1, h3⟩, RVl.append (by simpa using h2) ?_⟩
    rw [ShV_len s c h1]
    exact h4

theorem weights_all {d : DataW H} : ∀ {l : List (DataW H)} {e : TypeId}, d ∈ l → ∀ n ∈ d.weights P e, n ∈ DataW.weightsAll P e l
  | d0 :: l, e, h, n, hn => by
    simp only [DataW.weightsAll, List.mem_append]
    rcases List.mem_cons.1 h with rfl | h
    · exact .inl hn
    · exact .inr (weights_all h n hn)
/-- WHAT IS HANDED, OPENED. -/
theorem open_sh : ∀ (f : Nat) (s : Sh) (t fuel : Nat) (cs : List Value) (x : DataW H × List MemPlace), shOf P f t = some s → DataW.trod enc P w base spare held fuel t cs = some x → (∀ n ∈ x.1.weights P t, n ≤ lim) → ∃ c, ShV s c ∧ RVl (Env.start w) c (fun i => cs[i]?) 0
  | 0, _, _, _, _, _, h, _, _ => by cases h
  | f + 1, s, t, fuel, cs, x, h, hd, hwt => by
    simp only [shOf] at h
    split at h
    · rename_i k hk
      cases h
      obtain ⟨n, rfl, _, hw⟩ := DataW.trod_int hk hd
      exact ⟨[.v (.int k n)], by simp only [ShV]; exact ⟨n, hw, rfl⟩, by simp only [RVl]; exact ⟨⟨_, rfl, by simp only [RV]⟩, trivial⟩⟩
    · rename_i hk
      cases h
      obtain ⟨z, rfl, rfl, hw⟩ := DataW.trod_string hk hd
      exact ⟨[.v (.string z)], by simp only [ShV]; exact ⟨z, by simpa [DataW.weights] using hwt, rfl⟩, by simp only [RVl]; exact ⟨⟨_, rfl, by simp only [RV]⟩, trivial⟩⟩
    · rename_i hk
      cases h
      obtain ⟨b, rfl, _⟩ := DataW.trod_bool hk hd
      exact ⟨[.v (.bool b)], by simp only [ShV]; exact ⟨b, rfl⟩, by simp only [RVl]; exact ⟨⟨_, rfl, by simp only [RV]⟩, trivial⟩⟩
    · rename_i fs hk
      obtain ⟨l, hl, h⟩ := Option.bind_eq_some_iff.1 h
      split at h
      · rename_i hc
        cases h
        obtain ⟨xs, n, _, rfl, hcl, hxl, hf⟩ := DataW.trod_struct hk hd
        simp only [ShV]
        refine consec_open l 0 hc.1 fun p hp => ?_
        obtain ⟨i, hi⟩ := List.mem_iff_getElem?.1 hp
        have hlen := mapM_some_length hl
        have hil : i < fs.toList.length := by rw [← hlen]; exact (List.getElem?_eq_some_iff.1 hi).1
        have hfi : fs.toList[i]? = some (fs.toList[i]) := List.getElem?_eq_getElem hil
        have hg := mapM_some_get hl i _ hfi
        rw [hi] at hg
        obtain ⟨s', hs', hg⟩ := Option.bind_eq_some_iff.1 hg
        split at hg
        · cases hg
          have hfx := hf i fs.toList[i] (by simp)
          have hxi : i < xs.length := by rw [hxl]; simpa using hil
          rw [List.getElem?_eq_getElem hxi] at hfx
          obtain ⟨c, h1, h2⟩ := open_sh f s' _ n _ _ hs' hfx fun n hn => hwt n (by
            simp only [DataW.weights, hk]
            exact DataW.weights_mem_each (j := i) (by simp [hfi]) (by simp [List.getElem?_eq_getElem hxi]) n hn)
          exact ⟨c, h1, RVl_part h2⟩
        · cases hg
      · cases h
    · rename_i n e hk
      obtain ⟨s', hs', h⟩ := Option.bind_eq_some_iff.1 h
      split at h
      · rename_i hc
        cases h
        obtain ⟨xs, m, _, rfl, hcl, hxl, hf⟩ := DataW.trod_array hk hd
        simp only [ShV]
        refine repl_open n 0 fun i hi => ?_
        have hfx := hf i hi
        rw [List.getElem?_eq_getElem (by omega)] at hfx
        obtain ⟨c, h1, h2⟩ := open_sh f s' e m _ _ hs' hfx fun n hn => hwt n (by
          simp only [DataW.weights, hk]
          exact weights_all (List.mem_map_of_mem (List.getElem_mem _)) n hn)
        refine ⟨c, h1, ?_⟩
        rw [Nat.zero_add, hc.1]
        exact RVl_part h2
      · cases h
    · rename_i e hk
      obtain ⟨s', hs', h⟩ := Option.bind_eq_some_iff.1 h
      split at h
      · rename_i hc
        cases h
        simp only [ShV]
        rcases open_slice hk hd with ⟨rfl, _⟩ | ⟨ad, len, cap, m, n, D, Pl, rfl, _, hlc, hcm, hm, rfl, hx⟩
        · exact ⟨[.isl [] 0], ⟨[], (by intro x hx; cases hx), ⟨Nat.zero_le _, by simp⟩, rfl⟩, by simp only [RVl]; exact ⟨⟨_, rfl, RV_slice (Nat.le_refl _) (.inl ⟨rfl, rfl, rfl, rfl⟩)⟩, trivial⟩⟩
        · have hm' : len ≤ m := by rw [hm]; split <;> omega
          obtain ⟨els, hel, hee⟩ := choose_fin (p := fun i c => ShV s' c ∧ ∃ cs', w.cells? base (ad.add (i * P.cellsOf e)) (P.cellsOf e) = some cs' ∧ RVl (Env.start w) c (fun j => cs'[j]?) 0) len fun i hi => by
            obtain ⟨cs', h1, h2⟩ := hx i (by omega)
            obtain ⟨c, k1, k2⟩ := open_sh f s' e n _ _ hs' h2 fun n hn => hwt n (by
              simp only [DataW.weights, hk, List.mem_cons, List.mem_append]
              exact .inr (.inl (weights_all (List.mem_map.2 ⟨i, List.mem_range.2 hi, rfl⟩) n hn)))
            exact ⟨c, k1, cs', h1, k2⟩
          have hsh : ∀ x ∈ els, ShV s' x := fun x hx => by
            obtain ⟨i, hi⟩ := List.mem_iff_getElem?.1 hx
            exact (hee i x hi).1
          subst hel
          have hlim : els.length ≤ lim ∧ els.length * s'.sb ≤ lim := by
            have h0 := hwt _ (by simp only [DataW.weights, hk]; exact List.mem_cons_self)
            have h1 : els.length * 1 ≤ (els.length + (m - els.length)) * P.bytesOf e := Nat.mul_le_mul (by omega) hc.2.2.1
            have h2 : els.length * s'.sb ≤ (els.length + (m - els.length)) * P.bytesOf e := Nat.mul_le_mul (by omega) hc.2.2.2
            simp only [List.length_map, List.length_range] at h0
            exact ⟨by omega, by omega⟩
          suffices hRV : RV (Env.start w) (.isl els.flatten els.length) (.slice (some ad) els.length cap) from ⟨[.isl els.flatten els.length], ⟨els, hsh, hlim, rfl⟩, by simp only [RVl]; exact ⟨⟨_, rfl, hRV⟩, trivial⟩⟩
          refine RV_slice hlc (.inr ⟨ad, rfl, ?_⟩)
          by_cases h0 : els = []
          · subst h0; exact .inl rfl
          · obtain ⟨c0, els', rfl⟩ : ∃ c0 els', els = c0 :: els' := by
              cases els with
              | nil => exact absurd rfl h0
              | cons a b => exact ⟨a, b, rfl⟩
            refine .inr ⟨?_, fun j y hj => ?_⟩
            · obtain ⟨_, cs', h1, _⟩ := hee 0 c0 rfl
              obtain ⟨_, hl, hcc⟩ := World.cells?_some h1
              have := hcc 0 (by omega)
              rw [List.getElem?_eq_getElem (by omega)] at this
              exact spot_none (a := ad) (by simpa [Addr.add] using this)
            · obtain ⟨i, r, c, rfl, hr, hi, hcr⟩ := flatten_at (k := P.cellsOf e) _ (fun x hx => by rw [ShV_len s' x (hsh x hx), hc.1]) j y hj
              obtain ⟨_, cs', h1, h2⟩ := hee i c hi
              obtain ⟨_, hl, hcc⟩ := World.cells?_some h1
              obtain ⟨v, v1, v2⟩ := h2.get r y hcr
              rw [Nat.zero_add] at v1
              have := hcc r hr
              rw [Deep.add_add] at this
              exact ⟨v, by rw [this]; exact v1, v2⟩
      · cases h
    · cases h
end

theorem weigh {H : Type} {P : Program} {ts : List TypeId} {ds : List (DataW H)} (h : (DataW.weightsEach P ts ds).all (· ≤ reachBytes) = true) {j : Nat} {t : TypeId} {d : DataW H} (ht : ts[j]? = some t) (hd : ds[j]? = some d) : ∀ n ∈ d.weights P t, n ≤ lim := fun n hn => by
  have := List.all_eq_true.1 h _ (DataW.weights_mem_each ht hd n hn)
  exact (by simpa using this : n ≤ reachBytes)

/-- A parameter's value out of its cells. -/
def asT : Sh → List TV → TV
  | .st _, c => .agg c
  | _, c => c.headD .any

def notArr (P : Program) (t : Nat) : Bool := match P.underlying t with | some (.array _ _) => false | _ => true

theorem open_param {P : Program} {H : Type} {enc : TypeId × Value → H} {W : World} {base f : Nat} {r : Reach} {t : TypeId} {v : Value} {d : DataW H} {p : List MemPlace} {s : Sh} (hs : shOf P f t = some s) (hna' : notArr P t = true) (hval : Value.okWide P W r base t v) (h : DataW.Trod enc P W 0 (fun _ => true) true t v d p) (hwt : ∀ n ∈ d.weights P t, n ≤ lim) :
    ∃ c, ShV s c ∧ RV (Env.start W) (asT s c) v := by
  have hna : ∀ n e, P.underlying t ≠ some (.array n e) := fun n e he => by unfold notArr at hna'; rw [he] at hna'; cases hna'
  obtain ⟨fuel, hf⟩ := h
  obtain ⟨c, h1, h2⟩ := open_sh f s t fuel _ _ hs hf hwt
  refine ⟨c, h1, ?_⟩
  cases f with
  | zero => cases hs
  | succ f =>
    simp only [shOf] at hs
    split at hs
    · rename_i k hk
      cases hs
      obtain ⟨n, rfl⟩ := WideShapes.okWide_int hk hval
      simp only [ShV] at h1
      obtain ⟨n', _, rfl⟩ := h1
      simpa [RVl, Value.cells, asT] using h2
    · rename_i hk
      cases hs
      obtain ⟨n, rfl⟩ := WideShapes.okWide_string hk hval
      simp only [ShV] at h1
      obtain ⟨n', _, rfl⟩ := h1
      simpa [RVl, Value.cells, asT] using h2
    · rename_i hk
      cases hs
      obtain ⟨n, rfl⟩ := WideShapes.okWide_bool hk hval
      simp only [ShV] at h1
      obtain ⟨n', rfl⟩ := h1
      simpa [RVl, Value.cells, asT] using h2
    · rename_i fs hk
      obtain ⟨l, hl, hs⟩ := Option.bind_eq_some_iff.1 hs
      split at hs
      · rename_i hc
        cases hs
        obtain ⟨cs, rfl, hcs⟩ := WideShapes.okWide_struct hk hval
        simp only [asT, RV]
        exact ⟨cs.toList, rfl, by rw [ShV_len _ c h1]; simp [hcs, Sh.sz, hc.2], by simpa [Value.cells] using h2⟩
      · cases hs
    · rename_i n e hk
      exact absurd hk (hna n e)
    · rename_i e hk
      obtain ⟨s', hs', hs⟩ := Option.bind_eq_some_iff.1 hs
      split at hs
      · cases hs
        obtain ⟨a, len, cap, rfl⟩ := WideShapes.okWide_slice hk hval
        simp only [ShV] at h1
        obtain ⟨n', _, _, rfl⟩ := h1
        simpa [RVl, Value.cells, asT] using h2
      · cases hs
    · cases hs

theorem dec_int {k : IntKind} {c : List TV} (h : ShV (.int k) c) : ∃ n, (Lit.int k n).wf = true ∧ asT (.int k) c = .v (.int k n) := by
  simp only [ShV] at h
  obtain ⟨n, h1, rfl⟩ := h
  exact ⟨n, h1, rfl⟩
theorem dec_bool {c : List TV} (h : ShV .bool c) : ∃ b, True ∧ asT .bool c = .v (.bool b) := by
  simp only [ShV] at h
  obtain ⟨n, rfl⟩ := h
  exact ⟨n, trivial, rfl⟩
theorem dec_str {c : List TV} (h : ShV .str c) : ∃ s : List UInt8, s.length ≤ 140737488351232 ∧ asT .str c = .v (.string (bs s)) := by
  simp only [ShV] at h
  obtain ⟨s, h1, rfl⟩ := h
  exact ⟨sl s, by rw [← size_sl]; exact h1, by rw [bs_sl]; rfl⟩

/-- A list of what each of them is. -/
theorem els_map {α : Type} {p : α → Prop} {g : α → List TV} : ∀ {els : List (List TV)}, (∀ x ∈ els, ∃ a, p a ∧ x = g a) → ∃ l : List α, (∀ a ∈ l, p a) ∧ els = l.map g
  | [], _ => ⟨[], fun a h => (by cases h), rfl⟩
  | x :: els, h => by
    obtain ⟨a, h1, h2⟩ := h x List.mem_cons_self
    obtain ⟨l, h3, h4⟩ := els_map (els := els) fun y hy => h y (List.mem_cons_of_mem _ hy)
    exact ⟨a :: l, fun b hb => by rcases List.mem_cons.1 hb with rfl | hb; exact h1; exact h3 b hb, by rw [h2, h4]; rfl⟩
end Go.Proofs.YtnkdkajllmopaaaGreat.TL
