/- Own words, part 2: the other operations that touch no memory. No program is named here. -/
import Derived.Test.YtekmhdiajjfgfaaDoorTc
namespace Go.Proofs.YtekmhdiajjfgfaaDoor.TL
open Go
set_option linter.unusedVariables false
set_option linter.unusedSimpArgs false

section
variable {P : Program} {e : Ent} {E : Env} {s : TS} {w : World}

/-- Do two lists of plain cells agree? (numbers, texts, truth values alone) -/
def eqL : List TV → List TV → Option Bool
  | [], [] => some true
  | .v (.int k a) :: l, .v (.int k' b) :: l' => if k = k' then (eqL l l').map fun r => decide (a = b) && r else none
  | .v (.string a) :: l, .v (.string b) :: l' => (eqL l l').map fun r => decide (a = b) && r
  | .v (.bool a) :: l, .v (.bool b) :: l' => (eqL l l').map fun r => decide (a = b) && r
  | _, _ => none

def binT (op : BinOp) (x y : TV) (K : TV → Prop) : Prop :=
  match x, y with
  | .v (.int k a), .v (.int k' b) =>
    match op with
    | .shl => 0 ≤ b ∧ K (.v (.int k (k.wrap (a * 2 ^ (min b.toNat k.bits)))))
    | .shr => 0 ≤ b ∧ K (.v (.int k (a.fdiv (2 ^ (min b.toNat k.bits)))))
    | .add => k = k' ∧ K (.v (.int k (k.wrap (a + b))))
    | .sub => k = k' ∧ K (.v (.int k (k.wrap (a - b))))
    | .mul => k = k' ∧ K (.v (.int k (k.wrap (a * b))))
    | .quo => k = k' ∧ b ≠ 0 ∧ K (.v (.int k (k.wrap (a.tdiv b))))
    | .rem => k = k' ∧ b ≠ 0 ∧ K (.v (.int k (a.tmod b)))
    | .and => k = k' ∧ K (.v (.int k (bits .and k a b)))
    | .or => k = k' ∧ K (.v (.int k (bits .or k a b)))
    | .xor => k = k' ∧ K (.v (.int k (bits .xor k a b)))
    | .andNot => k = k' ∧ K (.v (.int k (bits .andNot k a b)))
    | .eql => k = k' ∧ K (.v (.bool (decide (a = b))))
    | .neq => k = k' ∧ K (.v (.bool (!decide (a = b))))
    | .lss => k = k' ∧ K (.v (.bool (decide (a < b))))
    | .leq => k = k' ∧ K (.v (.bool (decide (a ≤ b))))
    | .gtr => k = k' ∧ K (.v (.bool (decide (b < a))))
    | .geq => k = k' ∧ K (.v (.bool (decide (b ≤ a))))
  | .v (.string a), .v (.string b) =>
    match op with
    | .add => ((sl a).length + (sl b).length ≤ 9223372036854775807) ∧ K (.v (.string (bs (sl a ++ sl b))))
    | .eql => K (.v (.bool (decide (sl a = sl b))))
    | .neq => K (.v (.bool (!decide (sl a = sl b))))
    | _ => False
  | _, _ => False

theorem toList_eq_sl (a : ByteArray) : a.toList = sl a := ByteArray.toList_eq a

theorem beq_dec {α : Type} [DecidableEq α] (a b : α) : (a == b) = decide (a = b) := by
  by_cases h : a = b <;> simp [h]

theorem binT_sound {op : BinOp} {t : TypeId} {ox oy : Operand} {x y : TV} {u v : Value} {K : TV → Prop} (hx : RV E x u) (hy : RV E y v) (h : binT op x y K) :
    ∃ r z, K r ∧ RV E r z ∧ (do eqGuard op t ox oy u v; binOp op t u v : Sem Value).run P w = .ok z w := by
  unfold binT at h
  split at h
  · rename_i k a k' b
    simp only [RV] at hx hy
    subst hx hy
    cases op <;> simp only at h <;> first
      | (obtain ⟨h0, h⟩ := h
         refine ⟨_, _, h, by simp only [RV]; rfl, ?_⟩
         have hb : ¬ b < 0 := by omega
         simp [eqGuard, binOp, Op.shift, hb]; done)
      | (obtain ⟨rfl, h0, h⟩ := h
         refine ⟨_, _, h, by simp only [RV]; rfl, ?_⟩
         simp [eqGuard, binOp, Op.intDiv, h0]; done)
      | (obtain ⟨rfl, h⟩ := h
         refine ⟨_, _, h, by simp only [RV]; rfl, ?_⟩
         simp [eqGuard, binOp, Op.intArith, Op.intCmp, intBits_and, intBits_or, intBits_xor, intBits_andNot, beq_dec, bne]; done)
  · rename_i a b
    simp only [RV] at hx hy
    subst hx hy
    cases op <;> simp only at h <;> first
      | (obtain ⟨h0, h⟩ := h
         refine ⟨_, _, h, by simp only [RV]; rfl, ?_⟩
         have hb : ¬ ((9223372036854775807 : Int) < (a.size : Int) + (b.size : Int)) := by rw [size_sl, size_sl]; omega
         have e1 : a ++ b = bs (sl a ++ sl b) := by
           apply sl_inj.1
           rw [sl_bs]
           simp [sl]
         simp [eqGuard, binOp, Op.stringOp, hb, e1]; done)
      | (refine ⟨_, _, h, by simp only [RV]; rfl, ?_⟩
         have e1 : (sl a == sl b) = decide (sl a = sl b) := by by_cases hh : sl a = sl b <;> simp [hh]
         simp [eqGuard, binOp, Op.stringOp, toList_eq_sl, e1]; done)
  · exact h.elim

def unT (op : UnOp) (x : TV) (K : TV → Prop) : Prop :=
  match op, x with
  | .not, .v (.bool b) => K (.v (.bool (!b)))
  | .neg, .v (.int k n) => K (.v (.int k (k.wrap (0 - n))))
  | .xor, .v (.int k n) => K (.v (.int k (bits .xor k (if k.signed then -1 else k.max) n)))
  | _, _ => False

theorem unT_sound {op : UnOp} {x : TV} {u : Value} {K : TV → Prop} (hx : RV E x u) (h : unT op x K) :
    ∃ r z, K r ∧ RV E r z ∧ (Op.unary op u).run P w = .ok z w := by
  unfold unT at h
  split at h
  · simp only [RV] at hx; subst hx; exact ⟨_, _, h, by simp only [RV]; rfl, by simp [Op.unary]⟩
  · simp only [RV] at hx; subst hx; exact ⟨_, _, h, by simp only [RV]; rfl, by simp [Op.unary, Op.intArith]⟩
  · simp only [RV] at hx; subst hx; exact ⟨_, _, h, by simp only [RV]; rfl, by simp [Op.unary, intBits_xor]⟩
  · exact h.elim

/-- Kinds of a type, as a conversion wants them. -/
inductive Kd where
  | int (k : IntKind)
  | str
  | bytes
  | other
def kdOf (P : Program) (t : Nat) : Kd :=
  match P.underlying t with
  | some (.int k) => .int k
  | some .string => .str
  | some (.slice e) => match P.underlying e with | some (.int .u8) => .bytes | _ => .other
  | _ => .other

/-- A byte in a cell. -/
def bv (b : UInt8) : TV := .v (.int .u8 b.toNat)

def convT (P : Program) (src dst : Nat) (s : TS) (x : TV) (K : TV → Prop) : Prop :=
  hasU P src = true ∧ match x with
  | .v (.int _ n) => match kdOf P dst with
    | .int k => K (.v (.int k (k.wrap n)))
    | _ => False
  | .v (.string z) => match kdOf P dst with
    | .str => K (.v (.string z))
    | _ => False
  | .sl b ver o n => match getH s.h b, kdOf P src, kdOf P dst with
    | some (ver', B), .bytes, .str => ver = ver' ∧ ∃ l : List UInt8, (B.cells.drop o).take n = l.map bv ∧ l.length = n ∧ K (.v (.string (bs l)))
    | _, _, _ => False
  | .isl cells n => match kdOf P src, kdOf P dst with
    | .bytes, .str => ∃ l : List UInt8, cells = l.map bv ∧ l.length = n ∧ K (.v (.string (bs l)))
    | _, _ => False
  | .v (.slice none 0 0) => match kdOf P src, kdOf P dst with
    | .bytes, .str => K (.v (.string (bs [])))
    | _, _ => False
  | _ => False

theorem kdOf_int {t : Nat} {k : IntKind} (h : kdOf P t = .int k) : P.underlying t = some (.int k) := by
  unfold kdOf at h
  split at h
  · rename_i k' h'
    cases h
    exact h'
  · cases h
  · split at h <;> cases h
  · cases h
theorem kdOf_str {t : Nat} (h : kdOf P t = .str) : P.underlying t = some .string := by
  unfold kdOf at h
  split at h
  · cases h
  · assumption
  · split at h <;> cases h
  · cases h
theorem kdOf_bytes {t : Nat} (h : kdOf P t = .bytes) : ∃ e, P.underlying t = some (.slice e) ∧ P.underlying e = some (.int .u8) := by
  unfold kdOf at h
  split at h
  · cases h
  · cases h
  · rename_i e he
    split at h
    · exact ⟨e, he, by assumption⟩
    · cases h
  · cases h

theorem foldl_push_bs : ∀ (l : List UInt8) (z : ByteArray), (l.map fun b => (b.toNat : Int)).foldl (fun r n => r.push (UInt8.ofNat n.toNat)) z = bs (sl z ++ l)
  | [], z => by simp
  | b :: l, z => by
    simp only [List.map_cons, List.foldl_cons, foldl_push_bs l]
    congr 1
    have : sl (z.push (UInt8.ofNat (Int.toNat (b.toNat : Int)))) = sl z ++ [b] := by
      simp [sl, ByteArray.push]
    rw [this, List.append_assoc]
    rfl

theorem run_bytes (l : List UInt8) (a : Addr) (cap : Nat) (f : Nat → Option Value) (h : RVl E (l.map bv) f a.off) (hf : ∀ o v, f o = some v → w.cell? ⟨a.block, o, none⟩ = some v) (hs : a.spot = none) :
    (Conv.bytesToString (.slice (some a) l.length cap)).run P w = .ok (.string (bs l)) w := by
  obtain ⟨r, o, sp⟩ := a
  cases hs
  have h2 := run_loadCells_list (P := P) w ⟨r, o, none⟩ ((l.map fun b => (b.toNat : Int)).map (Value.int .u8)) (fun j v hj => by
    rw [Addr.add_lit]
    simp only [List.getElem?_map, Option.map_map] at hj
    obtain ⟨b, hb, rfl⟩ := Option.map_eq_some_iff.1 hj
    obtain ⟨v', k1, k2⟩ := h.get j (bv b) (by rw [List.getElem?_map, hb]; rfl)
    simp only [bv, RV] at k2
    subst k2
    exact hf _ _ k1)
  have := run_bytesToString (P := P) w ⟨r, o, none⟩ l.length cap (l.map fun b => (b.toNat : Int)) (by rw [← h2]; simp)
  rw [this, foldl_push_bs]
  rfl

theorem convT_sound {src dst : Nat} {x : TV} {u : Value} {K : TV → Prop} (H : SatH e E s.h w) (hx : RV E x u) (h : convT P src dst s x K) :
    ∃ r z, K r ∧ RV E r z ∧ (convert src dst u).run P w = .ok z w := by
  obtain ⟨hs, h⟩ := h
  obtain ⟨ds, hds⟩ := Option.isSome_iff_exists.1 hs
  split at h
  · simp only [RV] at hx; subst hx
    split at h
    · rename_i k hk
      exact ⟨_, _, h, by simp only [RV]; rfl, by simp [convert, run_underlying hds, run_underlying (kdOf_int hk), Conv.intToInt]⟩
    · exact h.elim
  · simp only [RV] at hx; subst hx
    split at h
    · rename_i hk
      exact ⟨_, _, h, by simp only [RV]; rfl, by simp [convert, run_underlying hds, run_underlying (kdOf_str hk)]⟩
    · exact h.elim
  · rename_i b ver o n
    split at h
    · rename_i ver' B hb hk1 hk2
      obtain ⟨rfl, l, hl, hn, hK⟩ := h
      obtain ⟨R, hR, hB⟩ := H.live b ver B hb
      obtain ⟨ee, he1, he2⟩ := kdOf_bytes hk1
      simp only [RV] at hx
      obtain ⟨a, cap, rfl, h0, -, h1, h2⟩ := hx
      refine ⟨_, _, hK, by simp only [RV]; rfl, ?_⟩
      rcases h2 R hR with ⟨rfl, rfl, rfl, rfl⟩ | ⟨q, a', rfl, rfl, h3, h4⟩
      · obtain rfl : l = [] := List.eq_nil_of_length_eq_zero hn
        simp [convert, run_underlying he1, run_underlying he2, run_underlying (kdOf_str hk2), Conv.bytesToString, bs]
        rfl
      · subst hn
        rcases h3 with rfl | rfl
        · obtain rfl : l = [] := List.eq_nil_of_length_eq_zero (Nat.le_zero.1 h0)
          simp [convert, run_underlying he1, run_underlying he2, run_underlying (kdOf_str hk2), Conv.bytesToString, loadCells, loadCellsFrom, bs]
          rfl
        · rcases hB with ⟨k0, _, _⟩ | ⟨q', k1, _, _, _, k5⟩
          · cases k0
          cases k1
          have := run_bytes (P := P) (E := E) (w := w) l ⟨q.r, q.base + o, none⟩ cap _ (hl ▸ (k5.drop o).take l.length) (fun _ _ hh => hh) rfl
          simp [convert, run_underlying he1, run_underlying he2, run_underlying (kdOf_str hk2), this]
    · exact h.elim
  · rename_i cells n
    split at h
    · rename_i hk1 hk2
      obtain ⟨l, rfl, hn, hK⟩ := h
      obtain ⟨ee, he1, he2⟩ := kdOf_bytes hk1
      refine ⟨_, _, hK, by simp only [RV]; rfl, ?_⟩
      subst hn
      simp only [RV] at hx
      rcases hx with ⟨h0, h1, rfl⟩ | ⟨a, cap, rfl, h2, h3⟩
      · obtain rfl : l = [] := List.eq_nil_of_length_eq_zero h0
        simp [convert, run_underlying he1, run_underlying he2, run_underlying (kdOf_str hk2), Conv.bytesToString, bs]
        rfl
      · rcases h3 with h3 | ⟨h3, h4⟩
        · obtain rfl : l = [] := by simpa using h3
          simp [convert, run_underlying he1, run_underlying he2, run_underlying (kdOf_str hk2), Conv.bytesToString, loadCells, loadCellsFrom, bs]
          rfl
        · have := run_bytes (P := P) (E := E) (w := w) l a cap _ h4 (fun o v hv => H.imm _ _ _ hv) h3
          simp [convert, run_underlying he1, run_underlying he2, run_underlying (kdOf_str hk2), this]
    · exact h.elim
  · simp only [RV] at hx; subst hx
    split at h
    · rename_i hk1 hk2
      obtain ⟨ee, he1, he2⟩ := kdOf_bytes hk1
      refine ⟨_, _, h, by simp only [RV]; rfl, ?_⟩
      simp [convert, run_underlying he1, run_underlying he2, run_underlying (kdOf_str hk2), Conv.bytesToString, bs]
      rfl
    · exact h.elim
  · exact h.elim

/-- A field's place: its first cell, how many it has, whether it is a struct or an array. -/
def fieldOf (P : Program) (t f : Nat) : Option (Nat × Nat × Bool) :=
  match P.underlying t with
  | some (.struct fs) => (fs[f]?).bind fun x => if 0 < szOf P x.type ∧ hasU P x.type = true then some (x.offset, szOf P x.type, isAg P x.type) else none
  | _ => none

theorem fieldOf_spec {t f o k : Nat} {ag : Bool} (h : fieldOf P t f = some (o, k, ag)) :
    ∃ fs x, P.underlying t = some (.struct fs) ∧ fs[f]? = some x ∧ x.offset = o ∧ szOf P x.type = k ∧ isAg P x.type = ag ∧ 0 < k ∧ hasU P x.type = true := by
  unfold fieldOf at h
  split at h
  · rename_i fs hfs
    obtain ⟨x, hx, h⟩ := Option.bind_eq_some_iff.1 h
    split at h
    · rename_i hc
      cases h
      exact ⟨fs, x, hfs, hx, rfl, rfl, rfl, hc.1, hc.2⟩
    · cases h
  · cases h

def fieldAddrT (P : Program) (t f : Nat) (x : TV) (K : TV → Prop) : Prop :=
  match fieldOf P t f with
  | some (o', _, _) => match x with
    | .at b ver o => K (.at b ver (o + o'))
    | .iat c => K (.iat (c.drop o'))
    | _ => False
  | none => False

theorem add_spot (a : Addr) (n : Nat) (h : a.spot = none) : a.add n = ⟨a.block, a.off + n, none⟩ := by
  obtain ⟨b, o, sp⟩ := a
  cases h
  exact Addr.add_lit b o n

theorem fieldAddrT_sound {t f : Nat} {x : TV} {u : Value} {K : TV → Prop} (hx : RV E x u) (h : fieldAddrT P t f x K) :
    ∃ r z, K r ∧ RV E r z ∧ (Instr.fieldAt t u f).run P w = .ok z w := by
  unfold fieldAddrT at h
  split at h
  · rename_i o' k ag hf
    obtain ⟨fs, y, h1, h2, rfl, rfl, rfl, h4, h5⟩ := fieldOf_spec hf
    have hn : szOf P y.type ≠ 0 := by omega
    have e1 : ∀ p : Addr, (Instr.fieldAt t (.pointer (some p)) f).run P w = .ok (.pointer (some (p.add y.offset))) w := fun p => by
      simp [Instr.fieldAt, run_underlying h1, h2, Instr.sureAddr, fieldPlace, run_szOf h4, hn]
    split at h
    · rename_i b ver o
      simp only [RV] at hx
      obtain ⟨p, rfl, h6, h7⟩ := hx
      refine ⟨_, _, h, ?_, e1 p⟩
      simp only [RV]
      refine ⟨_, rfl, h6, fun R hR => ?_⟩
      obtain ⟨q, rfl, rfl⟩ := h7 R hR
      exact ⟨q, rfl, by rw [Addr.add_lit]; simp [Nat.add_assoc]⟩
    · rename_i c
      simp only [RV] at hx
      obtain ⟨p, rfl, h6, h7⟩ := hx
      refine ⟨_, _, h, ?_, e1 p⟩
      simp only [RV]
      rw [add_spot p _ h6]
      exact ⟨_, rfl, rfl, h7.drop _⟩
    · exact h.elim
  · exact h.elim

def fieldT (P : Program) (t f : Nat) (x : TV) (K : TV → Prop) : Prop :=
  match fieldOf P t f, x with
  | some (o, k, ag), .agg l => if ag then o + k ≤ l.length ∧ K (.agg ((l.drop o).take k)) else match l.drop o with | z :: _ => K z | [] => False
  | _, _ => False

theorem getElem?_drop_cons {α : Type} {l l' : List α} {o : Nat} {z : α} (h : l.drop o = z :: l') : l[o]? = some z := by
  have := List.getElem?_drop (xs := l) (i := o) (j := 0)
  rw [h] at this
  simpa using this.symm

theorem fieldT_sound {t f : Nat} {x : TV} {u : Value} {K : TV → Prop} (hx : RV E x u) (h : fieldT P t f x K) :
    ∃ r z, K r ∧ RV E r z ∧ (Instr.field t u f).run P w = .ok z w := by
  unfold fieldT at h
  split at h
  · rename_i o k ag l hf
    obtain ⟨fs, y, h1, h2, rfl, rfl, rfl, h4, h5⟩ := fieldOf_spec hf
    simp only [RV] at hx
    obtain ⟨zs, rfl, z1, z2⟩ := hx
    have e1 : (Instr.field t (.agg zs.toArray) f).run P w = (part y.type zs.toArray y.offset).run P w := by
      simp [Instr.field, run_underlying h1, h2, asAgg]
    rw [e1]
    simp only [part, Sem.run_bind, run_isAg h5, Result.andThen_ok]
    by_cases ha : isAg P y.type = true
    · simp only [ha, if_true] at h ⊢
      obtain ⟨hl, hK⟩ := h
      refine ⟨_, .agg (zs.toArray.extract y.offset (y.offset + szOf P y.type)), hK, ?_, by simp [run_szOf h4]⟩
      simp only [RV]
      refine ⟨(zs.drop y.offset).take (szOf P y.type), ?_, by simp [z1], ?_⟩
      · congr 1; apply Array.ext'; simp [List.extract_eq_take_drop]
      · refine RVl.of fun j q hq => ?_
        rw [List.getElem?_take] at hq
        split at hq
        · rw [List.getElem?_drop] at hq
          obtain ⟨v, k1, k2⟩ := z2.get _ q hq
          refine ⟨v, ?_, k2⟩
          rw [List.getElem?_take, if_pos (by omega), List.getElem?_drop]
          simpa using k1
        · cases hq
    · simp only [ha, Bool.false_eq_true, if_false] at h ⊢
      split at h
      · rename_i z l' hd
        obtain ⟨v, k1, k2⟩ := z2.get _ z (getElem?_drop_cons hd)
        refine ⟨z, v, h, k2, ?_⟩
        simp at k1
        simp [k1]
      · exact h.elim
  · exact h.elim

def extractT (x : TV) (i : Nat) (K : TV → Prop) : Prop :=
  match x with
  | .tup l => match l.drop i with | z :: _ => K z | [] => False
  | _ => False
theorem extractT_sound {i : Nat} {x : TV} {u : Value} {K : TV → Prop} (hx : RV E x u) (h : extractT x i K) :
    ∃ r z, K r ∧ RV E r z ∧ (Instr.extract u i).run P w = .ok z w := by
  unfold extractT at h
  split at h
  · simp only [RV] at hx
    obtain ⟨zs, rfl, z1, z2⟩ := hx
    split at h
    · rename_i z l' hd
      obtain ⟨v, k1, k2⟩ := z2.get _ z (getElem?_drop_cons hd)
      refine ⟨z, v, h, k2, ?_⟩
      simp at k1
      simp [Instr.extract, k1]
    · exact h.elim
  · exact h.elim

end
end Go.Proofs.YtekmhdiajjfgfaaDoor.TL
