/- Own words, part 7: the operations that write no memory, as functions: what they ask, what they give. No program is named here. -/
import Derived.Test.YtekmhdiajjfgfaaDoorTh
namespace Go.Proofs.YtekmhdiajjfgfaaDoor.TL
open Go
set_option linter.unusedVariables false
set_option linter.unusedSimpArgs false

abbrev PT := Prop × TV
def no : PT := (False, .any)

def qbin (op : BinOp) (x y : TV) : PT :=
  match x, y with
  | .v (.int k a), .v (.int k' b) =>
    match op with
    | .shl => (0 ≤ b, .v (.int k (k.wrap (a * 2 ^ (min b.toNat k.bits)))))
    | .shr => (0 ≤ b, .v (.int k (a.fdiv (2 ^ (min b.toNat k.bits)))))
    | .add => (k = k', .v (.int k (k.wrap (a + b))))
    | .sub => (k = k', .v (.int k (k.wrap (a - b))))
    | .mul => (k = k', .v (.int k (k.wrap (a * b))))
    | .quo => (k = k' ∧ b ≠ 0, .v (.int k (k.wrap (a.tdiv b))))
    | .rem => (k = k' ∧ b ≠ 0, .v (.int k (a.tmod b)))
    | .and => (k = k', .v (.int k (bits .and k a b)))
    | .or => (k = k', .v (.int k (bits .or k a b)))
    | .xor => (k = k', .v (.int k (bits .xor k a b)))
    | .andNot => (k = k', .v (.int k (bits .andNot k a b)))
    | .eql => (k = k', .v (.bool (decide (a = b))))
    | .neq => (k = k', .v (.bool (!decide (a = b))))
    | .lss => (k = k', .v (.bool (decide (a < b))))
    | .leq => (k = k', .v (.bool (decide (a ≤ b))))
    | .gtr => (k = k', .v (.bool (decide (b < a))))
    | .geq => (k = k', .v (.bool (decide (b ≤ a))))
  | .v (.string a), .v (.string b) =>
    match op with
    | .add => ((sl a).length + (sl b).length ≤ 9223372036854775807, .v (.string (bs (sl a ++ sl b))))
    | .eql => (True, .v (.bool (decide (sl a = sl b))))
    | .neq => (True, .v (.bool (!decide (sl a = sl b))))
    | _ => no
  | _, _ => no
theorem qbin_ok {op : BinOp} {x y : TV} (h : (qbin op x y).1) : binT op x y (fun r => r = (qbin op x y).2) := by
  unfold qbin at h ⊢
  unfold binT
  split at h
  · cases op <;> simp_all
  · cases op <;> simp_all [no]
  · simp [no] at h

def qun (op : UnOp) (x : TV) : PT :=
  match op, x with
  | .not, .v (.bool b) => (True, .v (.bool (!b)))
  | .neg, .v (.int k n) => (True, .v (.int k (k.wrap (0 - n))))
  | .xor, .v (.int k n) => (True, .v (.int k (bits .xor k (if k.signed then -1 else k.max) n)))
  | _, _ => no
theorem qun_ok {op : UnOp} {x : TV} (h : (qun op x).1) : unT op x (fun r => r = (qun op x).2) := by
  unfold qun at h ⊢
  unfold unT
  split at h <;> simp_all [no]

section
variable (P : Program) (s : TS)

/-- What a cell of a byte holds. -/
def unbv : TV → UInt8
  | .v (.int .u8 n) => UInt8.ofNat n.toNat
  | _ => 0
def AllB (l : List TV) : Prop := ∃ m : List UInt8, l = m.map bv
theorem unbv_bv (b : UInt8) : unbv (bv b) = b := by simp [unbv, bv]
theorem map_unbv (l : List UInt8) : (l.map bv).map unbv = l := by
  rw [List.map_map]
  conv => rhs; rw [← List.map_id l]
  exact List.map_congr_left fun b _ => unbv_bv b

def qconv (src dst : Nat) (x : TV) : PT :=
  match x with
  | .v (.int _ n) => match kdOf P dst with
    | .int k => (hasU P src = true, .v (.int k (k.wrap n)))
    | _ => no
  | .v (.string z) => match kdOf P dst with
    | .str => (hasU P src = true, .v (.string z))
    | _ => no
  | .sl b ver o n => match getH s.h b, kdOf P src, kdOf P dst with
    | some (ver', B), .bytes, .str => (hasU P src = true ∧ ver = ver' ∧ AllB ((B.cells.drop o).take n) ∧ n ≤ (B.cells.drop o).length, .v (.string (bs (((B.cells.drop o).take n).map unbv))))
    | _, _, _ => no
  | .isl cells n => match kdOf P src, kdOf P dst with
    | .bytes, .str => (hasU P src = true ∧ AllB cells ∧ cells.length = n, .v (.string (bs (cells.map unbv))))
    | _, _ => no
  | .v (.slice none 0 0) => match kdOf P src, kdOf P dst with
    | .bytes, .str => (hasU P src = true, .v (.string (bs [])))
    | _, _ => no
  | _ => no
theorem qconv_ok {src dst : Nat} {x : TV} (h : (qconv P s src dst x).1) : convT P src dst s x (fun r => r = (qconv P s src dst x).2) := by
  unfold qconv at h ⊢
  unfold convT
  split at h
  · split at h
    · exact ⟨h, by simp_all⟩
    · simp [no] at h
  · split at h
    · exact ⟨h, by simp_all⟩
    · simp [no] at h
  · split at h
    · rename_i h1 h2 h3
      obtain ⟨h4, rfl, ⟨m, hm⟩, h5⟩ := h
      refine ⟨h4, ?_⟩
      simp only [h1, h2, h3, true_and]
      refine ⟨m, hm, ?_, by rw [hm, map_unbv]⟩
      have := congrArg List.length hm
      simp only [List.length_take, List.length_map] at this
      omega
    · simp [no] at h
  · split at h
    · rename_i h2 h3
      obtain ⟨h4, ⟨m, rfl⟩, h5⟩ := h
      refine ⟨h4, ?_⟩
      simp only [h2, h3]
      exact ⟨m, rfl, by simpa using h5, by rw [map_unbv]⟩
    · simp [no] at h
  · split at h
    · exact ⟨h, by simp_all⟩
    · simp [no] at h
  · simp [no] at h

def qread (ag : Bool) (k : Nat) (c : Prop) (cells : List TV) : PT :=
  if ag then (c ∧ k ≤ cells.length, .agg (cells.take k)) else (c ∧ cells ≠ [], cells.headD .any)
def qload (t : Nat) (x : TV) : PT :=
  match x with
  | .at b ver o => match getH s.h b with
    | some (ver', B) => qread (isAg P t) (szOf P t) (ver = ver' ∧ hasU P t = true ∧ 0 < szOf P t) (B.cells.drop o)
    | none => no
  | .iat cells => qread (isAg P t) (szOf P t) (hasU P t = true ∧ 0 < szOf P t) cells
  | _ => no
def headK (cells : List TV) (K : TV → Prop) : Prop := match cells with | z :: _ => K z | [] => False
theorem qread_ok {ag : Bool} {k : Nat} {c : Prop} {cells : List TV} (h : (qread ag k c cells).1) :
    c ∧ (if ag then k ≤ cells.length ∧ TV.agg (cells.take k) = (qread ag k c cells).2 else headK cells fun z => z = (qread ag k c cells).2) := by
  unfold qread at h ⊢
  cases ag
  · cases cells with
    | nil => simp at h
    | cons z l => simp [headK] at h ⊢; exact h
  · simp at h ⊢; exact h
theorem qload_ok {t : Nat} {x : TV} (h : (qload P s t x).1) : loadT P t s x (fun r => r = (qload P s t x).2) := by
  unfold qload at h ⊢
  unfold loadT addrCells
  cases x with
  | «at» b ver o =>
    simp only at h ⊢
    cases hb : getH s.h b with
    | none => simp [hb, no] at h
    | some p =>
      obtain ⟨ver', B⟩ := p
      simp only [hb] at h ⊢
      obtain ⟨⟨rfl, h1, h2⟩, h3⟩ := qread_ok h
      exact ⟨h1, h2, rfl, h3⟩
  | iat cells =>
    simp only at h ⊢
    obtain ⟨⟨h1, h2⟩, h3⟩ := qread_ok h
    exact ⟨h1, h2, h3⟩
  | _ => simp [no] at h

def qfieldAddr (t f : Nat) (x : TV) : PT :=
  match fieldOf P t f with
  | some (o', _, _) => match x with
    | .at b ver o => (True, .at b ver (o + o'))
    | .iat c => (True, .iat (c.drop o'))
    | _ => no
  | none => no
theorem qfieldAddr_ok {t f : Nat} {x : TV} (h : (qfieldAddr P t f x).1) : fieldAddrT P t f x (fun r => r = (qfieldAddr P t f x).2) := by
  unfold qfieldAddr at h ⊢
  unfold fieldAddrT
  split at h
  · split at h <;> simp_all [no]
  · simp [no] at h

def qfield (t f : Nat) (x : TV) : PT :=
  match fieldOf P t f, x with
  | some (o, k, ag), .agg l => if ag then (o + k ≤ l.length, .agg ((l.drop o).take k)) else (l.drop o ≠ [], (l.drop o).headD .any)
  | _, _ => no
theorem qfield_ok {t f : Nat} {x : TV} (h : (qfield P t f x).1) : fieldT P t f x (fun r => r = (qfield P t f x).2) := by
  unfold qfield at h ⊢
  unfold fieldT
  split at h
  · rename_i o k ag l hf
    simp only [hf]
    cases ag
    · simp only [Bool.false_eq_true, if_false] at h ⊢
      cases hd : l.drop o with
      | nil => exact absurd hd h
      | cons z l' => simp
    · simp at h ⊢
      exact h
  · simp [no] at h

def qextract (x : TV) (i : Nat) : PT :=
  match x with
  | .tup l => (l.drop i ≠ [], (l.drop i).headD .any)
  | _ => no
theorem qextract_ok {x : TV} {i : Nat} (h : (qextract x i).1) : extractT x i (fun r => r = (qextract x i).2) := by
  unfold qextract at h ⊢
  unfold extractT
  split at h
  · rename_i l
    cases hd : l.drop i with
    | nil => exact absurd hd h
    | cons z l' => simp [hd]
  · simp [no] at h

def qidx (t : Nat) (x i : TV) : PT :=
  match i with
  | .v (.int _ i) => match elemOf P t, arrOf P t, x with
    | some k, _, .sl b ver o n => (0 ≤ i ∧ i < n, .at b ver (o + i.toNat * k))
    | some k, _, .isl c n => (0 ≤ i ∧ i < n ∧ n * k ≤ c.length, .iat (c.drop (i.toNat * k)))
    | none, some (n, k), .at b ver o => (0 ≤ i ∧ i < n, .at b ver (o + i.toNat * k))
    | none, some (n, k), .iat c => (0 ≤ i ∧ i < n, .iat (c.drop (i.toNat * k)))
    | _, _, _ => no
  | _ => no
theorem qidx_ok {t : Nat} {x i : TV} (h : (qidx P t x i).1) : idxT P t x i (fun r => r = (qidx P t x i).2) := by
  unfold qidx at h ⊢
  unfold idxT
  split at h
  · split at h <;> first | (simp [no] at h; done) | (simp only [*]; simp at h ⊢; exact h)
  · simp [no] at h

def qslice (t : Nat) (x : TV) (lo hi : Option TV) : PT :=
  match x with
  | .v (.string z) => match kdOf P t, bnd lo 0, bnd hi (sl z).length with
    | .str, some l, some h => (0 ≤ l ∧ l ≤ h ∧ h ≤ (sl z).length, .v (.string (bs (((sl z).drop l.toNat).take (h - l).toNat))))
    | _, _, _ => no
  | .sl b ver o n => match elemOf P t, getH s.h b with
    | some k, some (ver', B) => match bnd lo 0, bnd hi n with
      | some l, some h => (ver = ver' ∧ (B.k = 0 ∨ B.k = k) ∧ 0 ≤ l ∧ l ≤ h ∧ (h ≤ n ∨ B.k = k ∧ o + h.toNat * k ≤ B.cells.length), .sl b ver (o + l.toNat * k) (h - l).toNat)
      | _, _ => no
    | _, _ => no
  | .isl c n => match elemOf P t, bnd lo 0, bnd hi n with
    | some k, some l, some h => (0 ≤ l ∧ l ≤ h ∧ h ≤ n ∧ n * k ≤ c.length, .isl ((c.drop (l.toNat * k)).take ((h - l).toNat * k)) (h - l).toNat)
    | _, _, _ => no
  | .v (.slice none 0 0) => match elemOf P t, bnd lo 0, bnd hi 0 with
    | some k, some l, some h => (l = 0 ∧ h = 0, .v (.slice none 0 0))
    | _, _, _ => no
  | .at b ver o => match arrOf P t, getH s.h b with
    | some (n, k), some (ver', B) => match bnd lo 0, bnd hi n with
      | some l, some h => (ver = ver' ∧ B.k = 0 ∧ 0 ≤ l ∧ l ≤ h ∧ h ≤ n, .sl b ver (o + l.toNat * k) (h - l).toNat)
      | _, _ => no
    | _, _ => no
  | .iat c => match arrOf P t with
    | some (n, k) => match bnd lo 0, bnd hi n with
      | some l, some h => (0 ≤ l ∧ l ≤ h ∧ h ≤ n ∧ n * k ≤ c.length, .isl ((c.drop (l.toNat * k)).take ((h - l).toNat * k)) (h - l).toNat)
      | _, _ => no
    | none => no
  | _ => no
theorem qslice_ok {t : Nat} {x : TV} {lo hi : Option TV} (h : (qslice P s t x lo hi).1) : sliceT P t s x lo hi (fun r => r = (qslice P s t x lo hi).2) := by
  unfold qslice at h ⊢
  unfold sliceT
  split at h
  · split at h
    · rename_i h1 h2 h3; simp only [h1, h2, h3]; simp at h ⊢; exact h
    · simp [no] at h
  · split at h
    · split at h
      · rename_i h1 h2 _ _ h3 h4
        simp only [*] at h ⊢
        exact ⟨h, trivial⟩
      · simp [no] at h
    · simp [no] at h
  · split at h
    · rename_i h1 h2 h3; simp only [h1, h2, h3]; simp at h ⊢; exact h
    · simp [no] at h
  · split at h
    · rename_i h1 h2 h3; simp only [h1, h2, h3]; simp at h ⊢; exact h
    · simp [no] at h
  · split at h
    · split at h
      · simp only [*] at h ⊢
        exact ⟨h, trivial⟩
      · simp [no] at h
    · simp [no] at h
  · split at h
    · split at h
      · simp only [*] at h ⊢
        exact ⟨h, trivial⟩
      · simp [no] at h
    · simp [no] at h
  · simp [no] at h

/-- s[l:h:m]: that it may be (what it is, is not said). -/
def qslice3 (t : Nat) (x lo hi m : TV) : PT :=
  match x, lo, hi, m with
  | .sl b ver o n, .v (.int _ l), .v (.int _ h), .v (.int _ m) => ((elemOf P t).isSome = true ∧ 0 ≤ l ∧ l ≤ h ∧ h ≤ m ∧ m ≤ n, .any)
  | _, _, _, _ => no
theorem qslice3_ok {E : Env} {w : World} {t : Nat} {x lo hi m : TV} {u l h k : Value} (hx : RV E x u) (h1 : RV E lo l) (h2 : RV E hi h) (h3 : RV E m k) (hp : (qslice3 P t x lo hi m).1) :
    ∃ z, RV E (qslice3 P t x lo hi m).2 z ∧ (Instr.sliceAt t u (some l) (some h) (some k)).run P w = .ok z w := by
  unfold qslice3 at hp ⊢
  split at hp
  · rename_i b ver o n k1 l' k2 h' k3 m'
    obtain ⟨e0, e1, e2, e3, e4⟩ := hp
    obtain ⟨kk, hk⟩ := Option.isSome_iff_exists.1 e0
    obtain ⟨ee, g1, rfl, g3⟩ := elemOf_spec hk
    simp only [RV] at hx h1 h2 h3
    subst h1 h2 h3
    obtain ⟨a, cap, rfl, h6, _⟩ := hx
    have hel : P.elem t = ee := by simp [Program.elem, g1]
    have b1 : ((m'.toNat : Nat) : Int) = m' := Int.toNat_of_nonneg (by omega)
    have b2 : ((h'.toNat : Nat) : Int) = h' := Int.toNat_of_nonneg (by omega)
    refine ⟨sliced a l'.toNat h'.toNat m'.toNat (szOf P ee), by simp only [RV], ?_⟩
    rw [run_sliceAt_slice w t _ _ _ _ (by rw [hel]; exact g1), run_slice_any w t _ _ _ (by rw [hel]; exact g1)]
    simp [Instr.sliceBounds, run_sliceBound (P := P) (w := w) k3 m' cap _ (by omega) (by omega), run_sliceBound (P := P) (w := w) k2 h' m'.toNat _ (by omega) (by omega), run_sliceBound (P := P) (w := w) k1 l' h'.toNat _ (by omega) (by omega), hel, run_szOf g3]
  · simp [no] at hp

def qlen (t : Nat) (x : TV) : PT :=
  match x with
  | .v (.string z) => (kdOf P t = .str, .v (.int .i64 (sl z).length))
  | .sl _ _ _ n | .isl _ n => ((elemOf P t).isSome = true, .v (.int .i64 n))
  | .v (.slice none 0 0) => ((elemOf P t).isSome = true, .v (.int .i64 0))
  | _ => no
theorem qlen_ok {t : Nat} {x : TV} (h : (qlen P t x).1) : lenT P t x (fun r => r = (qlen P t x).2) := by
  unfold qlen at h ⊢
  unfold lenT
  split at h <;> simp_all [no]

def qmm (mx : Bool) (x y : TV) : PT :=
  match x, y with
  | .v (.int k a), .v (.int k' b) => (True, .v (.int k (if mx then max a b else min a b)))
  | _, _ => no
theorem qmm_ok {mx : Bool} {x y : TV} (h : (qmm mx x y).1) : mmT mx x y (fun r => r = (qmm mx x y).2) := by
  unfold qmm at h ⊢
  unfold mmT
  split at h <;> simp_all [no]

def qindex (t : Nat) (x i : TV) : PT :=
  match x, i with
  | .agg l, .v (.int _ i) => match arrEOf P t with
    | some (n, k, false) => (0 ≤ i ∧ i < n ∧ l.drop (i.toNat * k) ≠ [], (l.drop (i.toNat * k)).headD .any)
    | _ => no
  | .v (.string z), .v (.int _ i) => (kdOf P t = .str ∧ 0 ≤ i ∧ i < (sl z).length, .v (.int .u8 (((sl z).getD i.toNat 0).toNat)))
  | _, _ => no
theorem qindex_ok {t : Nat} {x i : TV} (h : (qindex P t x i).1) : indexT P t x i (fun r => r = (qindex P t x i).2) := by
  unfold qindex at h ⊢
  unfold indexT
  split at h
  · rename_i l ki i
    split at h
    · rename_i n k hk
      obtain ⟨h1, h2, h3⟩ := h
      simp only [hk]
      refine ⟨⟨h1, h2⟩, ?_⟩
      cases hd : l.drop (i.toNat * k) with
      | nil => exact absurd hd h3
      | cons z l' => simp
    · simp [no] at h
  · simp_all [no]
  · simp_all [no]

def qbuild (t : Nat) (parts : List (Nat × TV)) : PT :=
  match plcOf P t, zeroOf P t with
  | some pl, some zs => match fillT (fun i => pl[i]?) (zs.map .v) parts with
    | some l => (True, .agg l)
    | none => no
  | _, _ => no
theorem qbuild_ok {t : Nat} {parts : List (Nat × TV)} (h : (qbuild P t parts).1) : buildT P t parts (fun r => r = (qbuild P t parts).2) := by
  unfold qbuild at h ⊢
  unfold buildT
  split at h
  · split at h
    · simp [*]
    · simp [no] at h
  · simp [no] at h
end
end Go.Proofs.YtekmhdiajjfgfaaDoor.TL
