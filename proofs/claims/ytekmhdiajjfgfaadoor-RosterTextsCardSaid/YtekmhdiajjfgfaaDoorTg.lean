/- Own words, part 5: structs and rows out of parts, lengths, the least and the greatest, appends. No program is named here. -/
import Derived.Test.YtekmhdiajjfgfaaDoorTf
import Derived.Deep.Upon
import Derived.Laws.Tables
namespace Go.Proofs.YtekmhdiajjfgfaaDoor.TL
open Go
set_option linter.unusedVariables false
set_option linter.unusedSimpArgs false

section
variable {P : Program} {e : Ent} {E : Env} {s : TS} {w : World}

/-- The places of a struct's fields, of an array's elements. -/
def plcOf (P : Program) (t : Nat) : Option (List (Nat × Nat)) :=
  match P.underlying t with
  | some (.struct fs) => fs.toList.mapM fun f => (P.info? f.type).map fun i => (f.offset, i.size)
  | some (.array n e) => if 0 < szOf P e then some ((List.range n).map fun i => (i * szOf P e, szOf P e)) else none
  | _ => none

def buildT (P : Program) (t : Nat) (parts : List (Nat × TV)) (K : TV → Prop) : Prop :=
  match plcOf P t, zeroOf P t with
  | some pl, some zs => match fillT (fun i => pl[i]?) (zs.map .v) parts with
    | some l => K (.agg l)
    | none => False
  | _, _ => False

theorem fill_weaken {p p' : Nat → Option (Nat × Nat)} (hp : ∀ i x, p i = some x → p' i = some x) : ∀ (vals : List (Nat × Value)) (cs r : Array Value), Instr.fill p cs vals = some r → Instr.fill p' cs vals = some r
  | [], _, _, h => h
  | (i, v) :: rest, cs, r, h => by
    simp only [Instr.fill] at h ⊢
    cases hi : p i with
    | none => rw [hi] at h; cases h
    | some x =>
      obtain ⟨o, k⟩ := x
      rw [hi] at h
      rw [hp i _ hi]
      simp only at h ⊢
      split at h
      · cases h
      · rename_i hc
        rw [if_neg hc]
        exact fill_weaken hp rest _ _ h

theorem buildT_sound {t : Nat} {parts : List (Nat × TV)} {vals : Array (Nat × Value)} {K : TV → Prop} (hl : parts.length = vals.toList.length)
    (hp : ∀ (j i : Nat) (x : TV), parts[j]? = some (i, x) → ∃ v : Value, vals.toList[j]? = some (i, v) ∧ RV E x v) (h : buildT P t parts K) :
    ∃ r z, K r ∧ RV E r z ∧ (Instr.build t vals).run P w = .ok z w := by
  unfold buildT at h
  split at h
  · rename_i pl zs hpl hz
    split at h
    · rename_i l hfill
      unfold zeroOf at hz
      cases hi : P.info? t with
      | none => simp [hi] at hz
      | some i =>
        cases hzv : i.zero with
        | none => simp [hi, hzv] at hz
        | some z =>
          simp [hi, hzv] at hz
          subst hz
          obtain ⟨cs', k1, k2, k3⟩ := fillT_sound (E := E) parts vals.toList _ z.cells l hl hp (by simp) (by simpa using RVl_map_v E z.cells.toList) hfill
          refine ⟨_, .agg cs', h, by simp only [RV]; exact ⟨cs'.toList, by simp, by simpa using k2, by simpa using k3⟩, ?_⟩
          unfold plcOf at hpl
          split at hpl
          · rename_i fs hu
            have hr := run_places (P := P) w fs.toList pl hpl
            have : (fs.mapM fun f => Prod.mk f.offset <$> sizeOf f.type : Sem (Array (Nat × Nat))).run P w = .ok pl.toArray w := by
              rw [Array.mapM_eq_mapM_toList]
              simp [hr]
            simp [Instr.build, run_underlying hu, zeroValue, typeInfo, hi, hzv, this]
            rw [k1]
            simp
          · rename_i n ee hu
            split at hpl
            · rename_i hsz
              cases hpl
              have k1' := fill_weaken (p' := fun i => some (i * szOf P ee, szOf P ee)) (fun i x hx => by
                simp only [List.getElem?_map] at hx
                cases hr : (List.range n)[i]? with
                | none => rw [hr] at hx; cases hx
                | some j =>
                  rw [hr] at hx
                  have : j = i := by
                    have := List.getElem?_eq_some_iff.1 hr
                    obtain ⟨h1, h2⟩ := this
                    simp at h2
                    exact h2.symm
                  subst this
                  simpa using hx) _ _ _ k1
              simp [Instr.build, run_underlying hu, zeroValue, typeInfo, hi, hzv, run_szOf hsz, k1']
            · cases hpl
          · cases hpl
    · exact h.elim
  · exact h.elim

def buildSliceT (P : Program) (d t len : Nat) (parts : List (Nat × TV)) (s : TS) (K : TV → Heap → Prop) : Prop :=
  match elemOf P t with
  | some k => match fillT (fun i => some (i * k, k)) (List.replicate (len * k) .any) parts with
    | some l => len * k ≤ 16777216 ∧ ∀ v, K (.sl d v 0 len) (setH s.h d (v, ⟨k, l⟩))
    | none => False
  | none => False

theorem fillT_length {place : Nat → Option (Nat × Nat)} : ∀ (parts : List (Nat × TV)) (cells l : List TV), fillT place cells parts = some l → l.length = cells.length
  | [], cells, l, h => by simp only [fillT, Option.some.injEq] at h; rw [h]
  | (i, x) :: rest, cells, l, h => by
    simp only [fillT] at h
    split at h
    · split at h
      · rename_i hc
        rw [fillT_length rest _ l h, over_length hc.2]
      · cases h
    · cases h

theorem sl_new (H : SatH e E s.h w) {b n cap : Nat} {q : Real} (hn : n ≤ cap) (hk : q.k ≠ 0 → q.base + cap * q.k = q.sz) : RV (E.slot b (some q)) (.sl b (E.c + 1) 0 n) (.slice (some ⟨q.r, q.base, none⟩) n cap) := by
  simp only [RV]
  refine ⟨_, _, rfl, hn, (fun hh => by cases hh), by simp [Env.slot], fun R hR => ?_⟩
  simp [Env.slot] at hR
  exact .inr ⟨q, _, hR.symm, rfl, .inr rfl, hk⟩

theorem buildSliceT_sound {d t len : Nat} {parts : List (Nat × TV)} {vals : Array (Nat × Value)} {K : TV → Heap → Prop} (H : SatH e E s.h w) (hl : parts.length = vals.toList.length)
    (hp : ∀ (j i : Nat) (x : TV), parts[j]? = some (i, x) → ∃ v : Value, vals.toList[j]? = some (i, v) ∧ RV E x v) (h : buildSliceT P d t len parts s K) :
    Goes e E K w ((Instr.buildSlice t len vals).run P w) := by
  unfold buildSliceT at h
  split at h
  · rename_i k hk
    split at h
    · rename_i l hfill
      obtain ⟨hlen, hK⟩ := h
      obtain ⟨ee, i, z, h1, h2, h3, h4, h5, h6, h7⟩ := elemOf_all hk
      have hll := fillT_length _ _ _ hfill
      simp only [List.length_replicate] at hll
      let zc : Array Value := if len * k = 0 then #[] else z.cells
      obtain ⟨cs', k1, k2, k3⟩ := fillT_sound (E := E) parts vals.toList _ ((Array.range (len * k)).map (zc[· % zc.size]!)) l hl hp (by simp) (RVl.of fun j x hx => by
        have hj := (List.getElem?_eq_some_iff.1 hx).1
        simp only [List.length_replicate] at hj
        rw [List.getElem?_eq_getElem (by simpa using hj)] at hx
        simp at hx
        subst hx
        exact ⟨_, Array.getElem?_eq_getElem (by simpa using hj), by simp only [RV]⟩) hfill
      have hA := H.alloc d k l cs' ee (by omega) k3
      refine ⟨_, _, .slice (some ⟨w.heap.size, 0, none⟩) len len, _, _, hK _, H.le_slot _ _, hA, sl_new H (Nat.le_refl _) (fun _ => by simp; omega), ?_⟩
      have hn : ¬ (16777216 < len * k) := by omega
      subst h2
      by_cases h0 : len * szOf P ee = 0
      · have hzc : zc = #[] := by simp [zc, h0]
        rw [hzc] at k1
        simp [Instr.buildSlice, run_underlying h1, run_szOf h3, hn, h0, newRow]
        simp [h0] at k1
        simp [k1]
      · have hzc : zc = z.cells := by simp [zc, h0]
        rw [hzc] at k1
        simp [Instr.buildSlice, run_underlying h1, run_szOf h3, hn, h0, newRow, zeroValue, typeInfo, h4, h6, k1]
    · exact h.elim
  · exact h.elim

def lenT (P : Program) (t : Nat) (x : TV) (K : TV → Prop) : Prop :=
  match x with
  | .v (.string z) => kdOf P t = .str ∧ K (.v (.int .i64 (sl z).length))
  | .sl _ _ _ n | .isl _ n => (elemOf P t).isSome = true ∧ K (.v (.int .i64 n))
  | .v (.slice none 0 0) => (elemOf P t).isSome = true ∧ K (.v (.int .i64 0))
  | _ => False

theorem lenT_sound {t ty : Nat} {ts : Array Nat} {vs : Array Value} {x : TV} {u : Value} {K : TV → Prop} (ht : ts[0]? = some t) (hv : vs[0]? = some u) (hx : RV E x u) (h : lenT P t x K) :
    ∃ r z, K r ∧ RV E r z ∧ (Builtin.len_ ts ty vs).run P w = .ok z w := by
  unfold lenT at h
  split at h
  · simp only [RV] at hx; subst hx
    obtain ⟨hk, h⟩ := h
    refine ⟨_, _, h, by simp only [RV]; rfl, ?_⟩
    simp [Builtin.len_, ht, hv, run_underlying (kdOf_str hk), goInt, size_sl]
  · obtain ⟨hk, h⟩ := h
    obtain ⟨k, hk⟩ := Option.isSome_iff_exists.1 hk
    obtain ⟨ee, h1, _, _⟩ := elemOf_spec hk
    simp only [RV] at hx
    obtain ⟨a, cap, rfl, _⟩ := hx
    exact ⟨_, _, h, by simp only [RV]; rfl, by simp [Builtin.len_, ht, hv, run_underlying h1, goInt]⟩
  · obtain ⟨hk, h⟩ := h
    obtain ⟨k, hk⟩ := Option.isSome_iff_exists.1 hk
    obtain ⟨ee, h1, _, _⟩ := elemOf_spec hk
    simp only [RV] at hx
    rcases hx with ⟨rfl, _, rfl⟩ | ⟨a, cap, rfl, _⟩
    · exact ⟨_, _, h, by simp only [RV]; rfl, by simp [Builtin.len_, ht, hv, run_underlying h1, goInt]⟩
    · exact ⟨_, _, h, by simp only [RV]; rfl, by simp [Builtin.len_, ht, hv, run_underlying h1, goInt]⟩
  · obtain ⟨hk, h⟩ := h
    obtain ⟨k, hk⟩ := Option.isSome_iff_exists.1 hk
    obtain ⟨ee, h1, _, _⟩ := elemOf_spec hk
    simp only [RV] at hx
    subst hx
    exact ⟨_, _, h, by simp only [RV]; rfl, by simp [Builtin.len_, ht, hv, run_underlying h1, goInt]⟩
  · exact h.elim

/-- The least, the greatest of two numbers. -/
def mmT (mx : Bool) (x y : TV) (K : TV → Prop) : Prop :=
  match x, y with
  | .v (.int k a), .v (.int k' b) => K (.v (.int k (if mx then max a b else min a b)))
  | _, _ => False

theorem mmT_sound {ty : Nat} {ts : Array Nat} {x y : TV} {u v : Value} {K : TV → Prop} (mx : Bool) (hx : RV E x u) (hy : RV E y v) (h : mmT mx x y K) :
    ∃ r z, K r ∧ RV E r z ∧ ((if mx then Builtin.max_ ts ty #[u, v] else Builtin.min_ ts ty #[u, v]).run P w = .ok z w) := by
  unfold mmT at h
  split at h
  · rename_i k a k' b
    simp only [RV] at hx hy
    subst hx hy
    cases mx
    · refine ⟨_, _, h, by simp only [RV]; rfl, ?_⟩
      simp only [Bool.false_eq_true, if_false, Builtin.min_, List.foldlM_cons, List.foldlM_nil, Builtin.min2, Sem.run_bind, Sem.run_pure, Result.andThen_ok]
      congr 2
      split <;> omega
    · refine ⟨_, _, h, by simp only [RV]; rfl, ?_⟩
      simp only [if_true, Builtin.max_, List.foldlM_cons, List.foldlM_nil, Builtin.max2, Sem.run_bind, Sem.run_pure, Result.andThen_ok]
      congr 2
      split <;> omega
  · exact h.elim

/-- An array's length, the size of its elements, whether they are structs or arrays. -/
def arrEOf (P : Program) (t : Nat) : Option (Nat × Nat × Bool) :=
  match P.underlying t with
  | some (.array n e) => if 0 < szOf P e ∧ hasU P e = true then some (n, szOf P e, isAg P e) else none
  | _ => none
theorem arrEOf_spec {t n k : Nat} {ag : Bool} (h : arrEOf P t = some (n, k, ag)) : ∃ e, P.underlying t = some (.array n e) ∧ szOf P e = k ∧ 0 < k ∧ hasU P e = true ∧ isAg P e = ag := by
  unfold arrEOf at h
  split at h
  · rename_i n' e he
    split at h
    · rename_i hc
      cases h
      exact ⟨e, he, rfl, hc.1, hc.2, rfl⟩
    · cases h
  · cases h

def indexT (P : Program) (t : Nat) (x i : TV) (K : TV → Prop) : Prop :=
  match x, i with
  | .agg l, .v (.int _ i) => match arrEOf P t with
    | some (n, k, false) => (0 ≤ i ∧ i < n) ∧ match l.drop (i.toNat * k) with | z :: _ => K z | [] => False
    | _ => False
  | .v (.string z), .v (.int _ i) => kdOf P t = .str ∧ (0 ≤ i ∧ i < (sl z).length) ∧ K (.v (.int .u8 (((sl z).getD i.toNat 0).toNat)))
  | _, _ => False

theorem indexT_sound {t : Nat} {x i : TV} {u v : Value} {K : TV → Prop} (hx : RV E x u) (hi : RV E i v) (h : indexT P t x i K) :
    ∃ r z, K r ∧ RV E r z ∧ (Instr.index t u v).run P w = .ok z w := by
  unfold indexT at h
  split at h
  · rename_i l ki i
    split at h
    · rename_i n k hk
      obtain ⟨e, h1, rfl, h3, h4, h5⟩ := arrEOf_spec hk
      obtain ⟨⟨c1, c2⟩, h⟩ := h
      simp only [RV] at hx hi
      subst hi
      obtain ⟨zs, rfl, z1, z2⟩ := hx
      split at h
      · rename_i z l' hd
        have hz : l[i.toNat * szOf P e]? = some z := by
          have := List.getElem?_drop (xs := l) (i := i.toNat * szOf P e) (j := 0)
          rw [hd] at this
          simpa using this.symm
        obtain ⟨v, k1, k2⟩ := z2.get _ z hz
        refine ⟨z, v, h, k2, ?_⟩
        rw [Nat.zero_add] at k1
        have hc : ¬ (i < 0 ∨ (n : Int) ≤ i) := by omega
        simp [Instr.index, asIntOf, run_underlying h1, c1, c2, asAgg, part, run_isAg h4, h5, run_szOf h3, k1]
      · exact h.elim
    · exact h.elim
  · rename_i z ki i
    simp only [RV] at hx hi
    subst hx hi
    obtain ⟨hk, ⟨h1, h2⟩, h⟩ := h
    refine ⟨_, _, h, by simp only [RV]; rfl, ?_⟩
    have hlt : i.toNat < z.size := by rw [size_sl]; omega
    have e1 : z[i.toNat]? = some ((sl z).getD i.toNat 0) := by
      rw [getElem?_pos z i.toNat hlt]
      have : i.toNat < (sl z).length := by omega
      simp [List.getD, this]
      rfl
    simp [Instr.index, asIntOf, run_underlying (kdOf_str hk), h1, e1]
  · exact h.elim

end
end Go.Proofs.YtekmhdiajjfgfaaDoor.TL
