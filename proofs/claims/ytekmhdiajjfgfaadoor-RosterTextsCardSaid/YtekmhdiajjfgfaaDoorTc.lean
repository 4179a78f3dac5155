/- Own words: what each operation does to a state (values as trees over numbered blocks), and that a world that fits the state goes on so. Part 1: what touches no memory, loads, stores. No program is named here. -/
import Derived.Test.YtekmhdiajjfgfaaDoorTb
import Derived.Laws.Strings
import Derived.Laws.Slices
namespace Go.Proofs.YtekmhdiajjfgfaaDoor.TL
open Go
set_option linter.unusedVariables false
set_option linter.unusedSimpArgs false

structure TS where
  t : List (Nat × TV)
  h : Heap

/-- A text of these bytes. -/
def bs (l : List UInt8) : ByteArray := ⟨l.toArray⟩
/-- A text's bytes. -/
def sl (s : ByteArray) : List UInt8 := s.data.toList
@[simp] theorem sl_bs (l : List UInt8) : sl (bs l) = l := by simp [sl, bs]
@[simp] theorem sl_mk (a : Array UInt8) : sl ⟨a⟩ = a.toList := rfl
@[simp] theorem bs_sl (s : ByteArray) : bs (sl s) = s := by cases s; simp [sl, bs]
@[simp] theorem size_bs (l : List UInt8) : (bs l).size = l.length := by simp [bs, ByteArray.size]
theorem size_sl (s : ByteArray) : s.size = (sl s).length := by cases s; simp [sl, ByteArray.size]
theorem bs_inj {l l' : List UInt8} : bs l = bs l' ↔ l = l' := ⟨fun h => by rw [← sl_bs l, h, sl_bs], fun h => by rw [h]⟩
theorem sl_inj {s s' : ByteArray} : sl s = sl s' ↔ s = s' := ⟨fun h => by rw [← bs_sl s, h, bs_sl], fun h => by rw [h]⟩

def TS.ev (s : TS) : Operand → TV
  | .tmp t => getT s.t t
  | .const v => .v v
  | .global g => match gvals g with | some l => .iat (l.map .v) | none => .v (.pointer (some ⟨g, 0, none⟩))
  | .func f => .v (.func (.func f) #[] #[])

theorem SatH.glo {e : Ent} {E : Env} {h : Heap} {w : World} (H : SatH e E h w) : ∀ g l, gvals g = some l → ∀ o v, l[o]? = some v → E.I g o = some v := fun g l hg o v hv => H.gr.le.I g o v (e.glo g l hg o v hv)
theorem RVl_vals {E : Env} {f : Nat → Option Value} : ∀ (l : List Value) (o : Nat), (∀ k v, l[k]? = some v → f (o + k) = some v) → RVl E (l.map .v) f o
  | [], o, h => by simp [RVl]
  | v :: l, o, h => by
    simp only [List.map_cons, RVl]
    refine ⟨⟨v, by simpa using h 0 v rfl, by simp only [RV]⟩, RVl_vals l (o + 1) fun k x hx => ?_⟩
    rw [show o + 1 + k = o + (k + 1) by omega]
    exact h (k + 1) x (by simpa using hx)
theorem ev_sound {E : Env} {s : TS} {a : Act} (hG : ∀ g l, gvals g = some l → ∀ o v, l[o]? = some v → E.I g o = some v) (hT : SatT E s.t a.tmps) (x : Operand) : RV E (s.ev x) (a.eval x) := by
  cases x with
  | tmp t => exact hT t
  | global g =>
    simp only [TS.ev, Act.eval]
    split
    · rename_i l hl
      simp only [RV]
      exact ⟨_, rfl, rfl, RVl_vals l 0 fun k v hv => by rw [Nat.zero_add]; exact hG g l hl k v hv⟩
    · simp only [RV]
  | _ => simp only [TS.ev, Act.eval, RV]

def szOf (P : Program) (t : Nat) : Nat := ((P.info? t).map (·.size)).getD 0
def byOf (P : Program) (t : Nat) : Nat := ((P.info? t).map (·.bytes)).getD 0
def zeroOf (P : Program) (t : Nat) : Option (List Value) := ((P.info? t).bind (·.zero)).map (·.cells.toList)
def isAg (P : Program) (t : Nat) : Bool := match P.underlying t with | some (.struct _) | some (.array _ _) => true | _ => false
def hasU (P : Program) (t : Nat) : Bool := (P.underlying t).isSome

theorem run_szOf {P : Program} {t : Nat} (h : 0 < szOf P t) (w : World) : (sizeOf t).run P w = .ok (szOf P t) w := by
  unfold szOf at h ⊢
  cases hi : P.info? t with
  | none => rw [hi] at h; simp at h
  | some i => simp [sizeOf, typeInfo, hi]
theorem run_isAg {P : Program} {t : Nat} (h : hasU P t = true) (w : World) : (isAgg t).run P w = .ok (isAg P t) w := by
  unfold hasU at h
  obtain ⟨d, hd⟩ := Option.isSome_iff_exists.1 h
  simp only [isAgg, Sem.run_bind, run_underlying hd, Result.andThen_ok, isAg, hd]
  cases d <;> rfl

/-- The cells of one value. -/
def cellsOf : TV → Option (List TV)
  | .agg l => some l
  | .v (.agg cs) => some (cs.toList.map .v)
  | .v (.tuple _) | .tup _ | .opt _ _ | .any => none
  | x => some [x]
def cellV : TV → Bool
  | .agg _ | .v (.agg _) | .v (.tuple _) | .tup _ | .opt _ _ | .any => false
  | _ => true

theorem RVl_map_v (E : Env) (cs : List Value) : RVl E (cs.map TV.v) (fun i => cs[i]?) 0 := RVl.of fun j x hx => by
  rw [List.getElem?_map] at hx
  cases hj : cs[j]? with
  | none => rw [hj] at hx; cases hx
  | some v => rw [hj] at hx; simp at hx; subst hx; exact ⟨v, by simpa using hj, by simp only [RV]⟩

theorem cellV_one {E : Env} {x : TV} {y : Value} (hx : RV E x y) (hc : cellV x = true) : y.oneCell' = true ∧ y.cells = #[y] := by
  cases x with
  | v z => simp only [RV] at hx; subst hx; cases y <;> simp_all [cellV, Value.oneCell', Value.cells]
  | «at» b ver o => simp only [RV] at hx; obtain ⟨p, rfl, -⟩ := hx; exact ⟨rfl, rfl⟩
  | sl b ver o n => simp only [RV] at hx; obtain ⟨a, cap, rfl, -⟩ := hx; exact ⟨rfl, rfl⟩
  | isl cells n => simp only [RV] at hx; rcases hx with ⟨-, -, rfl⟩ | ⟨a, cap, rfl, -⟩ <;> exact ⟨rfl, rfl⟩
  | iat cells => simp only [RV] at hx; obtain ⟨a, rfl, -⟩ := hx; exact ⟨rfl, rfl⟩
  | ifc t x => simp only [RV] at hx; obtain ⟨z, rfl, -⟩ := hx; exact ⟨rfl, rfl⟩
  | fn f c => simp only [RV] at hx; obtain ⟨z, rfl, -⟩ := hx; exact ⟨rfl, rfl⟩
  | agg l => cases hc
  | tup l => cases hc
  | opt g x => cases hc
  | any => cases hc

theorem cellsOf_sound {E : Env} {x : TV} {y : Value} {l : List TV} (hx : RV E x y) (hl : cellsOf x = some l) : y.cells.toList.length = l.length ∧ RVl E l (fun i => y.cells.toList[i]?) 0 := by
  by_cases hc : cellV x = true
  · have h1 := (cellV_one hx hc).2
    have : l = [x] := by
      cases x with
      | v z => cases z <;> simp_all [cellsOf, cellV]
      | _ => simp_all [cellsOf, cellV]
    subst this
    rw [h1]
    exact ⟨rfl, by simp only [RVl]; exact ⟨⟨y, rfl, hx⟩, trivial⟩⟩
  · cases x with
    | v z =>
      simp only [RV] at hx
      subst hx
      cases y with
      | agg cs =>
        simp only [cellsOf, Option.some.injEq] at hl
        subst hl
        exact ⟨by simp [Value.cells], by simpa [Value.cells] using RVl_map_v E cs.toList⟩
      | _ => simp_all [cellV, cellsOf]
    | agg l' =>
      simp only [cellsOf, Option.some.injEq] at hl
      subst hl
      simp only [RV] at hx
      obtain ⟨zs, rfl, h1, h2⟩ := hx
      exact ⟨by simpa [Value.cells] using h1, by simpa [Value.cells] using h2⟩
    | _ => simp_all [cellV, cellsOf]

section
variable {P : Program} {e : Ent} {E : Env} {s : TS} {w : World}

/-- The cells from an address on. -/
def addrCells (s : TS) (x : TV) (K : List TV → Prop) : Prop :=
  match x with
  | .at b ver o => match getH s.h b with
    | some (ver', B) => ver = ver' ∧ K (B.cells.drop o)
    | none => False
  | .iat cells => K cells
  | _ => False

theorem addrCells_sound {x : TV} {y : Value} {K : List TV → Prop} (H : SatH e E s.h w) (hx : RV E x y) (h : addrCells s x K) :
    ∃ r o cells, y = .pointer (some ⟨r, o, none⟩) ∧ K cells ∧ RVl E cells (fun i => w.cell? ⟨r, i, none⟩) o := by
  cases x with
  | «at» b ver o =>
    simp only [addrCells] at h
    split at h
    · rename_i ver' B hb
      obtain ⟨rfl, hK⟩ := h
      obtain ⟨R, hR, hB⟩ := H.live b ver B hb
      simp only [RV] at hx
      obtain ⟨p, rfl, h1, h2⟩ := hx
      obtain ⟨q, rfl, rfl⟩ := h2 R hR
      rcases hB with ⟨h0, _, _⟩ | ⟨q', h1, _, h3, h4, h5⟩
      · cases h0
      cases h1
      exact ⟨_, _, _, rfl, hK, h5.drop o⟩
    · exact h.elim
  | iat cells =>
    simp only [addrCells] at h
    simp only [RV] at hx
    obtain ⟨⟨r, o, sp⟩, rfl, h1, h2⟩ := hx
    cases h1
    exact ⟨r, o, cells, rfl, h, RVl.mono (Env.Le.refl E) _ _ _ _ (fun i v hv => H.imm r i v hv) h2⟩
  | _ => exact h.elim

/-- A variable read. -/
def loadT (P : Program) (t : Nat) (s : TS) (x : TV) (K : TV → Prop) : Prop :=
  hasU P t = true ∧ 0 < szOf P t ∧ addrCells s x fun c => if isAg P t then szOf P t ≤ c.length ∧ K (.agg (c.take (szOf P t))) else match c with | z :: _ => K z | [] => False

theorem loadT_sound {t : Nat} {x : TV} {y : Value} {K : TV → Prop} (H : SatH e E s.h w) (hx : RV E x y) (h : loadT P t s x K) :
    ∃ r v, K r ∧ RV E r v ∧ (Instr.loadAt t y).run P w = .ok v w := by
  obtain ⟨hu, hsz, h⟩ := h
  obtain ⟨r, o, cells, rfl, hK, hc⟩ := addrCells_sound H hx h
  have e1 : (Instr.loadAt t (.pointer (some ⟨r, o, none⟩))).run P w = (loadVar t ⟨r, o, none⟩).run P w := by simp [Instr.loadAt, Instr.sureAddr]
  rw [e1]
  simp only [loadVar, Sem.run_bind, run_isAg hu, Result.andThen_ok]
  by_cases ha : isAg P t = true
  · simp only [ha, if_true] at hK ⊢
    obtain ⟨hlen, hK⟩ := hK
    obtain ⟨zs, z1, z2, z3⟩ := (hc.take (szOf P t)).vals
    have hz : zs.length = szOf P t := by rw [z1, List.length_take]; omega
    refine ⟨_, .agg zs.toArray, hK, ?_, ?_⟩
    · simp only [RV]; exact ⟨zs, rfl, z1, z3⟩
    · have := run_loadCells_list (P := P) w ⟨r, o, none⟩ zs (fun j v hj => by rw [Addr.add_lit]; exact z2 j v hj)
      simp [run_szOf hsz, ← hz, this]
  · simp only [ha] at hK ⊢
    cases cells with
    | nil => simp at hK
    | cons z l =>
      simp only [RVl] at hc
      obtain ⟨⟨v, h1, h2⟩, _⟩ := hc
      exact ⟨z, v, by simpa using hK, h2, by simp [h1]⟩

/-- A variable written. -/
def storeT (P : Program) (t : Nat) (s : TS) (x z : TV) (K : TS → Prop) : Prop :=
  match x, cellsOf z with
  | .at b ver o, some new => match getH s.h b with
    | some (ver', B) => ver = ver' ∧ new.all cellV = true ∧ 0 < szOf P t ∧ new.length = szOf P t ∧ o + new.length ≤ B.cells.length ∧ K { s with h := setH s.h b (ver', ⟨B.k, over B.cells o new⟩) }
    | none => False
  | _, _ => False

theorem storeT_sound {t : Nat} {x z : TV} {y u : Value} {K : TS → Prop} (H : SatH e E s.h w) (hx : RV E x y) (hz : RV E z u) (h : storeT P t s x z K) :
    ∃ h' w', K { s with h := h' } ∧ SatH e E h' w' ∧ (Instr.storeAt t y u).run P w = .ok () w' := by
  unfold storeT at h
  split at h
  · rename_i b ver o new hnew
    split at h
    · rename_i ver' B hb
      obtain ⟨rfl, hall, hsz, hlen, hfit, hK⟩ := h
      obtain ⟨R, hR, hB⟩ := H.live b ver B hb
      simp only [RV] at hx
      obtain ⟨p, rfl, h1, h2⟩ := hx
      obtain ⟨q, rfl, rfl⟩ := h2 R hR
      rcases hB with ⟨h0, _, _⟩ | ⟨q', h1, _, h3, h4, h5⟩
      · cases h0
      cases h1
      obtain ⟨c1, c2⟩ := cellsOf_sound hz hnew
      have hone : ∀ v ∈ u.cells.toList, v.oneCell' = true := fun v hv => by
        obtain ⟨j, hj, rfl⟩ := List.getElem_of_mem hv
        obtain ⟨x', hx'⟩ : ∃ x', new[j]? = some x' := ⟨new[j]'(by omega), List.getElem?_eq_getElem _⟩
        obtain ⟨v', k1, k2⟩ := c2.get j x' hx'
        rw [Nat.zero_add, List.getElem?_eq_getElem hj] at k1
        cases k1
        exact (cellV_one k2 (List.all_eq_true.1 hall x' (List.mem_of_getElem? hx'))).1
      have hst := run_storeCells_cells (P := P) q.r (q.base + o) u.cells.toList 0 w (fun j hj => (h4 _ (by omega)).1) (fun j hj => (h4 _ (by omega)).2) hone
      refine ⟨_, _, hK, H.store hb hR hfit c1 c2, ?_⟩
      have hs : u.cells.size = szOf P t := by rw [← hlen, ← c1]; simp
      simp only [Nat.add_zero] at hst
      simp [Instr.storeAt, Instr.sureAddr, storeVar, run_szOf hsz, hs, hst]
    · exact h.elim
  · exact h.elim
end
end Go.Proofs.YtekmhdiajjfgfaaDoor.TL
