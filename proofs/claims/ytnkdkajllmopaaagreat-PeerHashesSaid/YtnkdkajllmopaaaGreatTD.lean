/- Own words, in one text: Tg2 Tg3 Tp Tfh Tnz. No program is named here. -/
/- Own words, part 22: a region whose order is drawn, in general: operations that change nothing as early as they may be, effects one behind the other, then a tail. No program is named here. -/
/- Own words, part 23: a region whose order is drawn, where two effects may change places (an alloc beside a call). No program is named here. -/
/- Own words, part 14: the rules as simp's, and what simp leaves alone. No program is named here. -/
/- A block that never changes any more, where cells of other blocks name it. -/
/- The nil slice as one that never changes, wherever it stands. -/
import Derived.Test.YtnkdkajllmopaaaGreatTC
/- Contracts used where rows hold addresses: such rows bear the same numbers in both. -/
namespace Go.Proofs.YtnkdkajllmopaaaGreat.TL
open Go
set_option linter.unusedVariables false
set_option linter.unusedSimpArgs false

section
variable {P : Program} {ops : Array Oper}

def lk : List (Nat × List Nat) → Nat → List Nat
  | [], _ => []
  | (k, l) :: r, i => if i = k then l else lk r i
/-- What may still be to be done is, in the memory behind an effect, what it was. -/
def stabL (P : Program) (ops : Array Oper) (h' : Heap) (rq : List Nat) (t : List (Nat × TV)) : List Nat → Prop
  | [] => True
  | j :: l => (match ops[j]? with
      | some o => if (isEff o.op || rq.contains j || freeOp o) = true then True else chStep P ops (fun _ : Unit => h') () o (fun _ => True) t (fun t2 _ => t2 = (o.dst.getD 0, getT t (o.dst.getD 0)) :: t)
      | none => True) ∧ stabL P ops h' rq t l
def stripN : List Bool → TS → TS
  | [], s => s
  | g :: l, s => stripS (g :: l) s
@[simp] theorem stripN_nil (s : TS) : stripN [] s = s := rfl
@[simp] theorem stripN_cons (g : Bool) (l : List Bool) (s : TS) : stripN (g :: l) s = stripS (g :: l) s := rfl
theorem stripN_eq (gs : List Bool) (s : TS) : stripN gs s = stripS gs s := by
  cases gs with
  | nil => exact (stripS_nil s).symm
  | cons g l => rfl
/-- An effect, where its guard lets it be. -/
def effG (P : Program) (ops : Array Oper) (o : Oper) (t : List (Nat × TV)) (h : Heap) (K : TV → Heap → Prop) : Prop :=
  match guardsOf ops t o with
  | some gs => guardE (allB gs) (effT P (o.dst.getD 0) o.op (stripN gs ⟨t, h⟩) K) (K (optL gs .any) h)
  | none => False
/-- The operations in an order: pre are behind us. -/
def runG (P : Program) (ops : Array Oper) (tab : List (Nat × List Nat)) (fin : List (Nat × TV) → Heap → Prop) : List Nat → List Nat → List (Nat × TV) → Heap → Prop
  | [], _, t, h => fin t h
  | i :: suf, pre, t, h => match ops[i]? with
    | none => False
    | some o => if isEff o.op = true then effG P ops o t h fun r h' => stabL P ops h' (lk tab i) (dl o.dst r t) pre ∧ runG P ops tab fin suf (i :: pre) (dl o.dst r t) h'
        else chStep P ops (fun _ : Unit => h) () o (fun _ => True) t fun t' _ => runG P ops tab fin suf (i :: pre) t' h

def hasD (ops : Array Oper) (j : Nat) : Bool := match ops[j]? with | some o => o.dst.isSome | none => false
def reqAt (ops : Array Oper) (i : Nat) : List Nat := match ops[i]? with | some o => reqs ops o i | none => []
def topoB (ops : Array Oper) : List Nat → List Nat → Bool
  | _, [] => true
  | seen, i :: l => (reqAt ops i).all (fun j => seen.contains j) && topoB ops (i :: seen) l
def asapB (ops : Array Oper) : List Nat → Bool
  | [] => true
  | i :: l => (!effAt ops i || l.all fun j => (reqAt ops j).contains i) && asapB ops l
def ndB : List Nat → Bool
  | [] => true
  | i :: l => !l.contains i && ndB l
def gB (ops : Array Oper) (ord : List Nat) (n : Nat) (tab : List (Nat × List Nat)) : Bool :=
  decide (n ≤ ops.size) && ((List.range n).all fun i => ord.contains i) && (ord.all fun i => decide (i < n)) && ndB ord &&
  ((List.range n).all fun i => match ops[i]? with
    | some o => (if isEff o.op then (lk tab i == reqs ops o i) else o.dst.isSome) && ((reads ops o).all fun x => (List.range n).all fun j => !hasD ops j || decide (dstAt ops j ≠ x) || (reqs ops o i).contains j) &&
        (List.range n).all fun j => !hasD ops i || !hasD ops j || decide (dstAt ops i ≠ dstAt ops j) || decide (i = j)
    | none => false) &&
  topoB ops [] ord && asapB ops ord &&
  ((List.range ops.size).all fun i => decide (i < n) || match ops[i]? with | some o => (List.range i).all fun j => (reqs ops o i).contains j | none => false)

theorem ndB_iff : ∀ {l : List Nat}, ndB l = true → l.Nodup
  | [], _ => List.nodup_nil
  | i :: l, h => by
    simp only [ndB, Bool.and_eq_true, Bool.not_eq_true', List.contains_eq_mem, decide_eq_false_iff_not] at h
    exact List.nodup_cons.2 ⟨h.1, ndB_iff h.2⟩

/-- Nothing is done ahead of what it waits for. -/
def Clsd (ops : Array Oper) (D : Nat → Bool) : Prop := ∀ (k : Nat) (p : Oper) (j : Nat), ops[k]? = some p → D k = true → waitsFor p j = true → D j = true

theorem Clsd.step {D : Nat → Bool} (hc : Clsd ops D) {i : Nat} {o : Oper} (ho : ops[i]? = some o) (hall : ∀ e ∈ o.after, Region.binds .any e = true → D e.on = true) : Clsd ops (doneAt D i) := fun k p j hp hk hw => by
  simp only [doneAt] at hk ⊢
  split
  · rfl
  · split at hk
    · rename_i hki
      rw [hki, ho] at hp
      cases hp
      exact waits_done hw hall
    · exact hc k p j hp hk hw
theorem Clsd.reqs {D : Nat → Bool} (hc : Clsd ops D) {i : Nat} (hD : D i = true) : ∀ j ∈ reqAt ops i, D j = true := fun j hj => by
  unfold reqAt at hj
  split at hj
  · rename_i o ho
    refine reqs_done (m := i) (fun e he hb => ?_) hc j (by simpa using hj)
    exact hc i o e.on ho hD (by
      unfold waitsFor
      rw [Array.any_eq_true']
      exact ⟨e, he, by simp [hb]⟩)
  · cases hj

/-- The state's list with those of D done alone. -/
theorem agreeG {val : Nat → TV} {t : List (Nat × TV)} {x : Nat} {D : Nat → Bool} : ∀ {L : List Nat}, (∀ j ∈ L, dstAt ops j = x → D j = true) → getT (tAt ops val t (L.filter D)) x = getT (tAt ops val t L) x
  | [], _ => rfl
  | j :: L, h => by
    have ih := agreeG (val := val) (t := t) (L := L) fun k hk => h k (List.mem_cons_of_mem _ hk)
    have key : ∀ M, getT (tAt ops val t (j :: M)) x = if x = dstAt ops j then val j else getT (tAt ops val t M) x := fun M => rfl
    by_cases hD : D j = true
    · rw [List.filter_cons_of_pos hD, key, key, ih]
    · rw [List.filter_cons_of_neg hD, key, ih]
      split
      · rename_i hx; exact absurd (h j List.mem_cons_self hx.symm) hD
      · rfl
theorem putG {val : Nat → TV} {t : List (Nat × TV)} {D : Nat → Bool} {i : Nat} (x : Nat) : ∀ {L : List Nat}, i ∈ L → (∀ j ∈ L, dstAt ops j = dstAt ops i → j = i) → L.Nodup →
    getT (tAt ops val t (L.filter (doneAt D i))) x = getT ((dstAt ops i, val i) :: tAt ops val t (L.filter D)) x := fun {L} hi hu hn => by
  simp only [getT]
  by_cases hx : x = dstAt ops i
  · subst hx
    rw [if_pos rfl]
    exact getT_tAt (j := i) (by simp [hi, doneAt]) rfl fun k hk hkx => hu k (List.mem_filter.1 hk).1 hkx
  · rw [if_neg hx]
    by_cases hex : ∃ j, j ∈ L ∧ dstAt ops j = x ∧ D j = true ∧ ∀ k ∈ L, dstAt ops k = x → k = j
    · obtain ⟨j, hj, hjx, hDj, hju⟩ := hex
      rw [getT_tAt (j := j) (by simp [hj, doneAt, hDj]) hjx (fun k hk hkx => hju k (List.mem_filter.1 hk).1 hkx), getT_tAt (j := j) (by simp [hj, hDj]) hjx (fun k hk hkx => hju k (List.mem_filter.1 hk).1 hkx)]
    · have e1 : L.filter (doneAt D i) = L.filter (doneAt D i) := rfl
      have key : ∀ L : List Nat, getT (tAt ops val t (L.filter (doneAt D i))) x = getT (tAt ops val t (L.filter D)) x := fun L => by
        induction L with
        | nil => rfl
        | cons j L ih =>
          have k1 : ∀ M, getT (tAt ops val t (j :: M)) x = if x = dstAt ops j then val j else getT (tAt ops val t M) x := fun M => rfl
          by_cases hji : j = i
          · subst hji
            rw [List.filter_cons_of_pos (by simp [doneAt]), k1, if_neg hx, ih]
            by_cases hD : D j = true
            · rw [List.filter_cons_of_pos hD, k1, if_neg hx]
            · rw [List.filter_cons_of_neg hD]
          · have e2 : doneAt D i j = D j := by simp only [doneAt]; rw [if_neg hji]
            by_cases hD : D j = true
            · rw [List.filter_cons_of_pos (by rw [e2]; exact hD), List.filter_cons_of_pos hD, k1, k1, ih]
            · rw [List.filter_cons_of_neg (by rw [e2]; exact hD), List.filter_cons_of_neg hD, ih]
      exact key L

/-- The full list of values behind pre. -/
def tA (ops : Array Oper) (val : Nat → TV) (t0 : List (Nat × TV)) (pre : List Nat) : List (Nat × TV) := tAt ops val t0 (pre.filter (hasD ops))
def Stab (P : Program) (ops : Array Oper) (t0 : List (Nat × TV)) (h : Heap) (val : Nat → TV) (pre : List Nat) (j : Nat) : Prop :=
  ∃ o T, ops[j]? = some o ∧ (∀ x ∈ reads ops o, getT T x = getT (tA ops val t0 pre) x) ∧ chStep P ops (fun _ : Unit => h) () o (fun _ => True) T fun t2 J2 => t2 = (o.dst.getD 0, val j) :: T ∧ J2 = fun _ => True

structure GOk (ops : Array Oper) (ord : List Nat) (n : Nat) (tab : List (Nat × List Nat)) : Prop where
  sz : n ≤ ops.size
  mem : ∀ i, i < n ↔ i ∈ ord
  nd : ord.Nodup
  eff : ∀ i o, i < n → ops[i]? = some o → isEff o.op = true → lk tab i = reqAt ops i
  qui : ∀ i o, i < n → ops[i]? = some o → isEff o.op = false → o.dst.isSome = true
  rd : ∀ i o, i < n → ops[i]? = some o → ∀ x ∈ reads ops o, ∀ j, j < n → hasD ops j = true → dstAt ops j = x → j ∈ reqAt ops i
  uni : ∀ i j, i < n → j < n → hasD ops i = true → hasD ops j = true → dstAt ops i = dstAt ops j → i = j
  topo : ∀ pre i suf, ord = pre ++ i :: suf → ∀ j ∈ reqAt ops i, j ∈ pre
  asap : ∀ pre i suf, ord = pre ++ i :: suf → effAt ops i = true → ∀ j ∈ suf, i ∈ reqAt ops j
  tail : ∀ i o, n ≤ i → ops[i]? = some o → ∀ j, j < i → j ∈ reqAt ops i

theorem topoB_iff : ∀ (l seen : List Nat), topoB ops seen l = true → ∀ pre i suf, l = pre ++ i :: suf → ∀ j ∈ reqAt ops i, j ∈ seen ∨ j ∈ pre
  | [], seen, _, pre, i, suf, h => by simp at h
  | k :: l, seen, hb, pre, i, suf, h => by
    simp only [topoB, Bool.and_eq_true, List.all_eq_true] at hb
    cases pre with
    | nil =>
      simp at h
      obtain ⟨rfl, rfl⟩ := h
      intro j hj
      exact .inl (by simpa using hb.1 j hj)
    | cons a pre =>
      simp at h
      obtain ⟨rfl, rfl⟩ := h
      intro j hj
      rcases topoB_iff _ _ hb.2 pre i suf rfl j hj with h | h
      · rcases List.mem_cons.1 h with rfl | h
        · exact .inr List.mem_cons_self
        · exact .inl h
      · exact .inr (List.mem_cons_of_mem _ h)
theorem asapB_iff : ∀ (l : List Nat), asapB ops l = true → ∀ pre i suf, l = pre ++ i :: suf → effAt ops i = true → ∀ j ∈ suf, i ∈ reqAt ops j
  | [], _, pre, i, suf, h => by simp at h
  | k :: l, hb, pre, i, suf, h => by
    simp only [asapB, Bool.and_eq_true, Bool.or_eq_true, Bool.not_eq_true', List.all_eq_true] at hb
    cases pre with
    | nil =>
      simp at h
      obtain ⟨rfl, rfl⟩ := h
      intro he j hj
      rcases hb.1 with h | h
      · rw [he] at h; cases h
      · simpa using h j hj
    | cons a pre =>
      simp at h
      obtain ⟨rfl, rfl⟩ := h
      exact asapB_iff _ hb.2 pre i suf rfl

theorem gB_ok {ord : List Nat} {n : Nat} {tab : List (Nat × List Nat)} (h : gB ops ord n tab = true) : GOk ops ord n tab := by
  unfold gB at h
  simp only [Bool.and_eq_true, decide_eq_true_eq] at h
  obtain ⟨⟨⟨⟨⟨⟨⟨h1, h2⟩, h3⟩, h4⟩, h5⟩, h6⟩, h7⟩, h8⟩ := h
  have h2' := List.all_eq_true.1 h2
  have h3' := List.all_eq_true.1 h3
  have h5' := List.all_eq_true.1 h5
  have h8' := List.all_eq_true.1 h8
  have g5 : ∀ i o, i < n → ops[i]? = some o → (if isEff o.op then (lk tab i == reqs ops o i) else o.dst.isSome) = true ∧ ((reads ops o).all fun x => (List.range n).all fun j => !hasD ops j || decide (dstAt ops j ≠ x) || (reqs ops o i).contains j) = true ∧
      ((List.range n).all fun j => !hasD ops i || !hasD ops j || decide (dstAt ops i ≠ dstAt ops j) || decide (i = j)) = true := fun i o hi ho => by
    have := h5' i (by simpa using hi)
    rw [ho] at this
    simp only [Bool.and_eq_true] at this
    exact ⟨this.1.1, this.1.2, this.2⟩
  have hreq : ∀ i o, ops[i]? = some o → reqAt ops i = reqs ops o i := fun i o ho => by simp only [reqAt, ho]
  refine ⟨h1, fun i => ⟨fun hi => by simpa using h2' i (by simpa using hi), fun hi => by simpa using h3' i hi⟩, ndB_iff h4, fun i o hi ho he => ?_, fun i o hi ho he => ?_, fun i o hi ho x hx j hj hd hjx => ?_, fun i j hi hj hdi hdj hij => ?_, fun pre i suf he j hj => ?_, asapB_iff _ h7, fun i o hi ho j hj => ?_⟩
  · have := (g5 i o hi ho).1
    rw [he] at this
    simp only [if_true, beq_iff_eq] at this
    rw [hreq i o ho]; exact this
  · have := (g5 i o hi ho).1
    rw [he] at this
    simpa using this
  · have := List.all_eq_true.1 (List.all_eq_true.1 (g5 i o hi ho).2.1 x hx) j (by simpa using hj)
    simp only [hd, hjx, ne_eq, not_true_eq_false, decide_false, Bool.not_true, Bool.false_or] at this
    rw [hreq i o ho]
    simpa using this
  · obtain ⟨o, ho⟩ : ∃ o, ops[i]? = some o := ⟨ops[i]'(by omega), Array.getElem?_eq_getElem _⟩
    have := List.all_eq_true.1 (g5 i o hi ho).2.2 j (by simpa using hj)
    simp only [hdi, hdj, hij, ne_eq, not_true_eq_false, decide_false, Bool.not_true, Bool.false_or, decide_eq_true_eq] at this
    exact this
  · rcases topoB_iff _ _ h6 pre i suf he j hj with h | h
    · cases h
    · exact h
  · have := h8' i (by simpa using (Array.getElem?_eq_some_iff.1 ho).1)
    rw [ho] at this
    simp only [Bool.or_eq_true, decide_eq_true_eq] at this
    rcases this with h | h
    · omega
    · have := List.all_eq_true.1 h j (by simpa using hj)
      rw [hreq i o ho]
      simpa using this

theorem reqs_lt {o : Oper} {m : Nat} : ∀ j ∈ reqs ops o m, j < m := by
  have key : ∀ (l acc : List Nat), (∀ j ∈ l, j < m) → (∀ j ∈ acc, j < m) → ∀ j ∈ l.foldl (fun acc j => if waitsFor o j || acc.any (fun k => match ops[k]? with | some p => waitsFor p j | none => false) then j :: acc else acc) acc, j < m := by
    intro l
    induction l with
    | nil => intro acc _ h; exact h
    | cons x l ih =>
      intro acc hl h
      simp only [List.foldl_cons]
      refine ih _ (fun j hj => hl j (List.mem_cons_of_mem _ hj)) fun j hj => ?_
      split at hj
      · rcases List.mem_cons.1 hj with rfl | hj
        · exact hl j List.mem_cons_self
        · exact h j hj
      · exact h j hj
  intro j hj
  unfold reqs at hj
  exact key _ [] (fun j hj => by simpa using hj) (fun _ hh => by cases hh) j hj
theorem edge_lt (hedge : edgesOk ops = true) {a j : Nat} {p : Oper} (hp : ops[a]? = some p) (hw : waitsFor p j = true) : j < a := by
  obtain ⟨e, he, hb⟩ := Array.any_eq_true'.1 hw
  simp only [Bool.and_eq_true, decide_eq_true_eq] at hb
  unfold edgesOk at hedge
  rw [List.all_eq_true] at hedge
  have ha := (Array.getElem?_eq_some_iff.1 hp).1
  have := hedge (p, a) (List.mem_iff_getElem?.2 ⟨a, by simp [List.getElem?_zipIdx, hp]⟩)
  rw [Array.all_eq_true_iff_forall_mem] at this
  have := this e he
  simp only [hb.1, Bool.not_true, Bool.false_or, decide_eq_true_eq] at this
  omega

theorem nd_rev {l : List Nat} (h : l.reverse.Nodup) : l.Nodup := (List.pairwise_reverse.1 h).imp fun h => Ne.symm h
theorem tA_cons {val : Nat → TV} {t0 : List (Nat × TV)} {i : Nat} {pre : List Nat} : tA ops val t0 (i :: pre) = if hasD ops i = true then (dstAt ops i, val i) :: tA ops val t0 pre else tA ops val t0 pre := by
  unfold tA
  by_cases h : hasD ops i = true
  · rw [if_pos h, List.filter_cons_of_pos h]; rfl
  · rw [if_neg h, List.filter_cons_of_neg h]
theorem tA_val {val val' : Nat → TV} {t0 : List (Nat × TV)} {pre : List Nat} (h : ∀ j ∈ pre, val j = val' j) : tA ops val t0 pre = tA ops val' t0 pre := tAt_val fun j hj => h j (List.mem_filter.1 hj).1
theorem tA_app {val val' : Nat → TV} {t0 : List (Nat × TV)} {pre : List Nat} {x : Nat} (hv : ∀ j ∈ pre, val' j = val j) : ∀ (new : List Nat), (∀ j ∈ new, hasD ops j = true → dstAt ops j ≠ x) → getT (tA ops val' t0 (new ++ pre)) x = getT (tA ops val t0 pre) x
  | [], _ => by rw [List.nil_append, tA_val hv]
  | j :: new, h => by
    rw [List.cons_append, tA_cons]
    have ih := tA_app (t0 := t0) hv new fun k hk => h k (List.mem_cons_of_mem _ hk)
    split
    · rename_i hd
      simp only [getT]
      rw [if_neg (Ne.symm (h j List.mem_cons_self hd))]
      exact ih
    · exact ih

variable {ord : List Nat} {n : Nat} {tab : List (Nat × List Nat)} {t0 : List (Nat × TV)}

/-- What an operation of pre reads is not written behind pre. -/
theorem noWrite (G : GOk ops ord n tab) {pre new suf : List Nat} (he : ord = (new ++ pre).reverse ++ suf) {j : Nat} {o : Oper} (hj : ops[j]? = some o) (hjn : j < n) (hreq : ∀ k ∈ reqAt ops j, k ∈ pre) {x : Nat} (hx : x ∈ reads ops o) : ∀ k ∈ new, hasD ops k = true → dstAt ops k ≠ x := fun k hk hd hkx => by
  have hkn : k < n := (G.mem k).2 (by rw [he]; simp [hk])
  have := hreq k (G.rd j o hjn hj x hx k hkn hd hkx)
  have hnd := G.nd
  rw [he, List.nodup_append] at hnd
  have h2 := hnd.1
  replace h2 := nd_rev h2
  rw [List.nodup_append] at h2
  exact h2.2.2 k hk k this rfl

theorem req_pre (G : GOk ops ord n tab) {pre suf : List Nat} (he : ord = pre.reverse ++ suf) {j : Nat} (hj : j ∈ pre) : ∀ k ∈ reqAt ops j, k ∈ pre := fun k hk => by
  obtain ⟨a, b, hab⟩ := List.append_of_mem (List.mem_reverse.2 hj)
  have := G.topo a j (b ++ suf) (by rw [he, hab]; simp) k hk
  exact List.mem_reverse.1 (by rw [hab]; exact List.mem_append_left _ this)

theorem Stab.more (G : GOk ops ord n tab) {h : Heap} {val val' : Nat → TV} {pre new suf : List Nat} {j : Nat} (hj : j ∈ pre) (he : ord = (new ++ pre).reverse ++ suf) (hv : ∀ k ∈ pre, val' k = val k) (hs : Stab P ops t0 h val pre j) : Stab P ops t0 h val' (new ++ pre) j := by
  obtain ⟨o, T, h1, h2, h3⟩ := hs
  refine ⟨o, T, h1, fun x hx => ?_, by rw [hv j hj]; exact h3⟩
  rw [h2 x hx]
  have he' : ord = pre.reverse ++ (new.reverse ++ suf) := by rw [he]; simp
  exact (tA_app hv new (noWrite G he h1 ((G.mem j).2 (by rw [he']; simp [hj])) (req_pre G he' hj) hx)).symm

theorem advG (G : GOk ops ord n tab) {fin : List (Nat × TV) → Heap → Prop} {h : Heap} : ∀ (suf pre : List Nat) (val : Nat → TV), ord = pre.reverse ++ suf → runG P ops tab fin suf pre (tA ops val t0 pre) h →
    ∃ suf2 new val2, ord = (new ++ pre).reverse ++ suf2 ∧ suf = new.reverse ++ suf2 ∧ (suf2 = [] ∨ ∃ i l, suf2 = i :: l ∧ effAt ops i = true) ∧ (∀ j ∈ pre, val2 j = val j) ∧ (∀ j ∈ new, effAt ops j = false ∧ Stab P ops t0 h val2 (new ++ pre) j) ∧ runG P ops tab fin suf2 (new ++ pre) (tA ops val2 t0 (new ++ pre)) h
  | [], pre, val, he, hr => ⟨[], [], val, he, rfl, .inl rfl, fun _ _ => rfl, fun j hj => (by cases hj), hr⟩
  | i :: suf, pre, val, he, hr => by
    have hin : i < n := (G.mem i).2 (by rw [he]; simp)
    obtain ⟨o, ho⟩ : ∃ o, ops[i]? = some o := ⟨ops[i]'(by have := G.sz; omega), Array.getElem?_eq_getElem _⟩
    cases hef : isEff o.op with
    | true => exact ⟨i :: suf, [], val, he, rfl, .inr ⟨i, suf, rfl, by simp only [effAt, ho]; exact hef⟩, fun _ _ => rfl, fun j hj => (by cases hj), hr⟩
    | false =>
      simp only [runG, ho, hef, Bool.false_eq_true, if_false] at hr
      obtain ⟨v, J', h1, h2⟩ := chStep_get hr
      have hnd := G.nd
      rw [he, List.nodup_append] at hnd
      have hip : i ∉ pre := fun hh => hnd.2.2 i (List.mem_reverse.2 hh) i List.mem_cons_self rfl
      have hd := G.qui i o hin ho hef
      have hdi : hasD ops i = true := by simp only [hasD, ho]; exact hd
      have hdst : o.dst.getD 0 = dstAt ops i := by simp [dstAt, ho]
      obtain ⟨val1, hval1⟩ : ∃ val1 : Nat → TV, val1 = fun j => if j = i then v else val j := ⟨_, rfl⟩
      have hv1 : ∀ j ∈ pre, val1 j = val j := fun j hj => by rw [hval1]; exact if_neg (fun hh : j = i => hip (hh ▸ hj))
      have hvi : val1 i = v := by rw [hval1]; simp
      have e1 : tA ops val1 t0 (i :: pre) = (o.dst.getD 0, v) :: tA ops val t0 pre := by
        rw [tA_cons, if_pos hdi, hvi, tA_val hv1, hdst]
      obtain ⟨suf2, new, val2, k1, k2, k3, k4, k5, k6⟩ := advG G suf (i :: pre) val1 (by rw [he]; simp) (by rw [e1]; exact h1)
      refine ⟨suf2, new ++ [i], val2, by rw [k1]; simp, by rw [k2]; simp, k3, fun j hj => by rw [k4 j (List.mem_cons_of_mem _ hj), hv1 j hj], fun j hj => ?_, by rw [List.append_assoc, List.singleton_append]; exact k6⟩
      rw [List.append_assoc, List.singleton_append]
      rcases List.mem_append.1 hj with hj | hj
      · exact k5 j hj
      · have : j = i := by simpa using hj
        subst this
        refine ⟨by simp only [effAt, ho]; exact hef, o, tA ops val t0 pre, ho, fun x hx => ?_, ?_⟩
        · have hreq : ∀ k ∈ reqAt ops j, k ∈ pre := fun k hk => List.mem_reverse.1 (G.topo pre.reverse j suf he k hk)
          have := tA_app (x := x) (t0 := t0) (val := val) (val' := val2) (pre := pre) (fun k hk => by rw [k4 k (List.mem_cons_of_mem _ hk), hv1 k hk]) (new ++ [j]) (noWrite G (suf := suf2) (by rw [k1]; simp) ho hin hreq hx)
          rw [← this, List.append_assoc, List.singleton_append]
        · rw [k4 j List.mem_cons_self, hvi]
          exact chStep_J (fun t2 J2 hh => hh.1) hef h2

theorem stabL_get {h' : Heap} {rq : List Nat} {t : List (Nat × TV)} : ∀ {l : List Nat}, stabL P ops h' rq t l → ∀ j ∈ l, ∀ o, ops[j]? = some o → (isEff o.op || rq.contains j || freeOp o) = false → chStep P ops (fun _ : Unit => h') () o (fun _ => True) t fun t2 _ => t2 = (o.dst.getD 0, getT t (o.dst.getD 0)) :: t
  | k :: l, h, j, hj, o, ho, hf => by
    simp only [stabL] at h
    rcases List.mem_cons.1 hj with rfl | hj
    · have := h.1
      rw [ho] at this
      simp only [hf, Bool.false_eq_true, if_false] at this
      exact this
    · exact stabL_get h.2 j hj o ho hf

/-- A REGION WHOSE ORDER IS DRAWN. ord: the first n operations in an order, those that change nothing as early as they may be; tab: what each effect waits for. -/
theorem draw_g {s : TS} {K : TS → Prop} (ord : List Nat) (n : Nat) (tab : List (Nat × List Nat)) (hm : P.follows .mixedOrders = true) (hedge : edgesOk ops = true) (hB : gB ops ord n tab = true)
    (h : runG P ops tab (fun t h => opsT P ops (ops.toList.drop n) ⟨t, h⟩ K) ord [] s.t s.h) : drawT P ops s K := by
  have G := gB_ok hB
  let fin := fun (t : List (Nat × TV)) (h : Heap) => opsT P ops (ops.toList.drop n) ⟨t, h⟩ K
  let tD := fun (val : Nat → TV) (pre : List Nat) (D : Nat → Bool) => tAt ops val s.t ((pre.filter (hasD ops)).filter D)
  let FF : (Nat → Bool) → TS → Prop := fun D s' => (∃ (pre suf : List Nat) (val : Nat → TV) (h : Heap), ord = pre.reverse ++ suf ∧ (suf = [] ∨ ∃ i l, suf = i :: l ∧ effAt ops i = true) ∧ (∀ i ∈ pre, effAt ops i = true → D i = true) ∧ (∀ i ∈ suf, D i = false) ∧ (∀ i, n ≤ i → D i = false) ∧ Clsd ops D ∧
      (∀ j ∈ pre, effAt ops j = false → D j = false → Stab P ops s.t h val pre j) ∧ runG P ops tab fin suf pre (tA ops val s.t pre) h ∧ s' = ⟨tD val pre D, h⟩) ∨
    (∃ k, n ≤ k ∧ (∀ i, i < k → D i = true) ∧ (∀ i, k ≤ i → D i = false) ∧ opsT P ops (ops.toList.drop k) s' K)
  refine draw_F hm hedge FF ?_ (fun D s' hF i o ho hD hall => ?_) fun D s' hall hF => ?_
  · obtain ⟨suf2, new, val2, k1, k2, k3, k4, k5, k6⟩ := advG (t0 := s.t) G (fin := fin) ord [] (fun _ => .any) rfl (by simpa [tA, tAt] using h)
    rw [List.append_nil] at k1 k6
    have k5' : ∀ j ∈ new, effAt ops j = false → (fun _ : Nat => false) j = false → Stab P ops s.t s.h val2 new j := fun j hj _ _ => by
      have := (k5 j hj).2
      rwa [List.append_nil] at this
    refine SLx.ext (s' := ⟨tD val2 new fun _ => false, s.h⟩) (.inl ⟨new, suf2, val2, s.h, k1, k3, fun i hi he => (by rw [(k5 i hi).1] at he; cases he), fun _ _ => rfl, fun _ _ => rfl, fun k p j _ h _ => (Bool.false_ne_true h).elim, k5', k6, rfl⟩) (fun x => ?_) rfl
    show getT (tAt ops val2 s.t ((new.filter (hasD ops)).filter fun _ => false)) x = _
    rw [show (new.filter (hasD ops)).filter (fun _ => false) = [] by simp]
    rfl
  · rcases hF with ⟨pre, suf, val, h, he, hsuf, hpe, hsD, hnD, hcl, hst, hrun, rfl⟩ | ⟨k, hk, hk1, hk2, hk3⟩
    · have hcl' := hcl.step ho hall
      have hreq : ∀ j ∈ reqAt ops i, D j = true := fun j hj => by
        unfold reqAt at hj
        rw [ho] at hj
        exact reqs_done hall hcl j (by simpa using hj)
      have hreads : ∀ j oj, j < n → ops[j]? = some oj → (∀ k ∈ reqAt ops j, D k = true) → ∀ x ∈ reads ops oj, getT (tD val pre D) x = getT (tA ops val s.t pre) x := fun j oj hjn hj hr x hx => by
        refine agreeG fun k hk hkx => ?_
        have hk2 := List.mem_filter.1 hk
        exact hr k (G.rd j oj hjn hj x hx k ((G.mem k).2 (by rw [he]; simp [hk2.1])) hk2.2 hkx)
      by_cases hin : i < n
      · have hio : i ∈ pre.reverse ++ suf := by rw [← he]; exact (G.mem i).1 hin
        by_cases hip : i ∈ pre
        · have hei : effAt ops i = false := by
            cases hh : effAt ops i with
            | false => rfl
            | true => rw [hpe i hip hh] at hD; cases hD
          have hef : isEff o.op = false := by simpa only [effAt, ho] using hei
          obtain ⟨o', T, h1, h2, h3⟩ := hst i hip hei hD
          rw [ho] at h1
          cases h1
          obtain ⟨d, hd⟩ := Option.isSome_iff_exists.1 (G.qui i o hin ho hef)
          have hdi : dstAt ops i = d := by simp [dstAt, ho, hd]
          have hhd : hasD ops i = true := by simp [hasD, ho, hd]
          refine (chStep_stepT (x := ()) (J' := fun _ => True) (v := val i) hd (t' := tD val pre D) (fun x hx => by rw [h2 x hx, hreads i o hin ho hreq x hx]) h3 (fun hh => by rw [hef] at hh; cases hh) fun y hy1 hy2 => ?_).2
          refine SLx.ext (s' := ⟨tD val pre (doneAt D i), h⟩) (.inl ⟨pre, suf, val, h, he, hsuf, fun j hj hje => ?_, fun j hj => ?_, fun j hj => ?_, hcl', fun j hj hje hjD => ?_, hrun, rfl⟩) (fun x => ?_) rfl
          · simp only [doneAt]; split; rfl; exact hpe j hj hje
          · simp only [doneAt]
            rw [if_neg (fun hji => ?_)]
            · exact hsD j hj
            · have hnd := G.nd
              rw [he, List.nodup_append] at hnd
              exact hnd.2.2 i (List.mem_reverse.2 hip) j hj hji.symm
          · simp only [doneAt]; rw [if_neg (by omega)]; exact hnD j hj
          · simp only [doneAt] at hjD
            split at hjD
            · cases hjD
            · exact hst j hj hje hjD
          · rw [← hdi]
            refine putG x (List.mem_filter.2 ⟨hip, hhd⟩) (fun j hj hji => ?_) ?_
            · have hj2 := List.mem_filter.1 hj
              exact G.uni j i ((G.mem j).2 (by rw [he]; simp [hj2.1])) hin hj2.2 hhd hji
            · have hnd := G.nd
              rw [he, List.nodup_append] at hnd
              have h2 := hnd.1
              replace h2 := nd_rev h2
              exact h2.sublist List.filter_sublist
        · have his : i ∈ suf := by
            rcases List.mem_append.1 hio with hh | hh
            · exact absurd (List.mem_reverse.1 hh) hip
            · exact hh
          rcases hsuf with rfl | ⟨e, l, rfl, hee⟩
          · cases his
          have hie : i = e := by
            rcases List.mem_cons.1 his with hh | hh
            · exact hh
            · have := hreq e (G.asap pre.reverse e l he hee i hh)
              rw [hsD e List.mem_cons_self] at this
              cases this
          subst hie
          have hef : isEff o.op = true := by simpa only [effAt, ho] using hee
          have htab := G.eff i o hin ho hef
          simp only [runG, ho, hef, if_true] at hrun
          have fin2 : ∀ r h', (stabL P ops h' (lk tab i) (dl o.dst r (tA ops val s.t pre)) pre ∧ runG P ops tab fin l (i :: pre) (dl o.dst r (tA ops val s.t pre)) h') → SLx ((⟨tD val pre D, h⟩ : TS).to o.dst r h') (FF (doneAt D i)) := fun r h' hP => by
            obtain ⟨hP1, hP2⟩ := hP
            have hnd0 := G.nd
            rw [he, List.nodup_append] at hnd0
            obtain ⟨val1, hval1⟩ : ∃ val1 : Nat → TV, val1 = fun j => if j = i then r else val j := ⟨_, rfl⟩
            have hv1 : ∀ j ∈ pre, val1 j = val j := fun j hj => by rw [hval1]; exact if_neg (fun hh : j = i => hip (hh ▸ hj))
            have hvi : val1 i = r := by rw [hval1]; simp
            have e1 : tA ops val1 s.t (i :: pre) = dl o.dst r (tA ops val s.t pre) := by
              rw [tA_cons, hvi, tA_val hv1]
              unfold dl
              cases hod : o.dst with
              | none => rw [if_neg (by simp [hasD, ho, hod])]
              | some d => rw [if_pos (by simp [hasD, ho, hod]), show dstAt ops i = d by simp [dstAt, ho, hod]]
            obtain ⟨suf2, new, val2, k1, k2, k3, k4, k5, k6⟩ := advG (t0 := s.t) G (fin := fin) l (i :: pre) val1 (by rw [he]; simp) (by rw [e1]; exact hP2)
            have hl : ∀ j ∈ l, j ≠ i := fun j hj hji => by
              have := (List.nodup_cons.1 hnd0.2.1).1
              exact this (hji ▸ hj)
            have hnewl : ∀ j ∈ new, j ∈ l := fun j hj => by rw [k2]; simp [hj]
            have hv2 : ∀ j ∈ pre, val2 j = val j := fun j hj => by rw [k4 j (List.mem_cons_of_mem _ hj), hv1 j hj]
            refine SLx.ext (s' := ⟨tD val2 (new ++ i :: pre) (doneAt D i), h'⟩) (.inl ⟨new ++ i :: pre, suf2, val2, h', k1, k3, fun j hj hje => ?_, fun j hj => ?_, fun j hj => ?_, hcl', fun j hj hje hjD => ?_, k6, rfl⟩) (fun x => ?_) (by unfold TS.to; rfl)
            · simp only [doneAt]
              split
              · rfl
              · rename_i hji
                rcases List.mem_append.1 hj with hj | hj
                · rw [(k5 j hj).1] at hje; cases hje
                · rcases List.mem_cons.1 hj with hj | hj
                  · exact absurd hj hji
                  · exact hpe j hj hje
            · have hjl : j ∈ l := by rw [k2]; simp [hj]
              simp only [doneAt]
              rw [if_neg (hl j hjl)]
              exact hsD j (List.mem_cons_of_mem _ hjl)
            · simp only [doneAt]; rw [if_neg (by omega)]; exact hnD j hj
            · simp only [doneAt] at hjD
              split at hjD
              · cases hjD
              · rename_i hji
                rcases List.mem_append.1 hj with hj | hj
                · exact (k5 j hj).2
                · rcases List.mem_cons.1 hj with hj | hj
                  · exact absurd hj hji
                  · obtain ⟨oj, T, g1, g2, g3⟩ := hst j hj hje hjD
                    have hjn : j < n := (G.mem j).2 (by rw [he]; simp [hj])
                    have hefj : isEff oj.op = false := by simpa only [effAt, g1] using hje
                    have hreqj := req_pre G he hj
                    have hjr : (lk tab i).contains j = false := by
                      rw [htab]
                      cases hh : (reqAt ops i).contains j with
                      | false => rfl
                      | true => rw [hreq j (by simpa using hh)] at hjD; cases hjD
                    cases hfr : freeOp oj with
                    | true =>
                      refine ⟨oj, T, g1, fun x hx => ?_, ?_⟩
                      · rw [g2 x hx]
                        have := tA_app (x := x) (t0 := s.t) (val := val) (val' := val2) (pre := pre) hv2 (new ++ [i]) (noWrite G (suf := suf2) (by rw [k1]; simp) g1 hjn hreqj hx)
                        rw [← this, List.append_assoc, List.singleton_append]
                      · rw [hv2 j hj]
                        exact qstep_free hfr g3
                    | false =>
                      have g4 := stabL_get hP1 j hj oj g1 (by rw [hefj, hjr, hfr]; rfl)
                      have hvj : getT (dl o.dst r (tA ops val s.t pre)) (oj.dst.getD 0) = val j := by
                        rw [← e1]
                        have hdj : oj.dst.getD 0 = dstAt ops j := by simp [dstAt, g1]
                        have hhd : hasD ops j = true := by
                          simp only [hasD, g1]; exact G.qui j oj hjn g1 hefj
                        rw [hdj]
                        unfold tA
                        rw [getT_tAt (j := j) (List.mem_filter.2 ⟨List.mem_cons_of_mem _ hj, hhd⟩) rfl (fun k hk hkx => ?_), hv1 j hj]
                        have hk2 := List.mem_filter.1 hk
                        refine G.uni k j ((G.mem k).2 ?_) hjn hk2.2 hhd hkx
                        rw [he]
                        rcases List.mem_cons.1 hk2.1 with hh | hh
                        · simp [hh]
                        · simp [hh]
                      rw [hvj] at g4
                      refine ⟨oj, tA ops val1 s.t (i :: pre), g1, fun x hx => ?_, ?_⟩
                      · exact (tA_app k4 new (noWrite G (suf := suf2) k1 g1 hjn (fun k hk => List.mem_cons_of_mem _ (hreqj k hk)) hx)).symm
                      · rw [e1, hv2 j hj]
                        exact chStep_J (fun t2 J2 hh => hh) hefj g4
            · have hnil : ∀ L : List Nat, (∀ j ∈ L, j ∈ l) → (L.filter (hasD ops)).filter (doneAt D i) = [] := fun L hL => by
                rw [List.filter_eq_nil_iff]
                intro j hj
                have hjl := hL j (List.mem_filter.1 hj).1
                simp only [doneAt]
                rw [if_neg (hl j hjl), hsD j (List.mem_cons_of_mem _ hjl)]
                simp
              have hpre : (pre.filter (hasD ops)).filter (doneAt D i) = (pre.filter (hasD ops)).filter D := List.filter_congr fun j hj => by
                simp only [doneAt]
                exact if_neg (fun hh : j = i => hip (hh ▸ (List.mem_filter.1 hj).1))
              have e2 : tD val2 (new ++ i :: pre) (doneAt D i) = dl o.dst r (tD val pre D) := by
                show tAt ops val2 s.t (((new ++ i :: pre).filter (hasD ops)).filter (doneAt D i)) = dl o.dst r (tAt ops val s.t ((pre.filter (hasD ops)).filter D))
                rw [List.filter_append, List.filter_append, hnil new hnewl, List.nil_append]
                have hagree : tAt ops val2 s.t ((pre.filter (hasD ops)).filter D) = tAt ops val s.t ((pre.filter (hasD ops)).filter D) := tAt_val fun j hj => hv2 j (List.mem_filter.1 (List.mem_filter.1 hj).1).1
                unfold dl
                cases hod : o.dst with
                | none => rw [List.filter_cons_of_neg (by simp [hasD, ho, hod]), hpre, hagree]
                | some d =>
                  rw [List.filter_cons_of_pos (by simp [hasD, ho, hod]), List.filter_cons_of_pos (by simp [doneAt]), hpre]
                  show (dstAt ops i, val2 i) :: tAt ops val2 s.t ((pre.filter (hasD ops)).filter D) = _
                  rw [hagree, k4 i List.mem_cons_self, hvi, show dstAt ops i = d by simp [dstAt, ho, hod]]
              show getT (tD val2 (new ++ i :: pre) (doneAt D i)) x = _
              rw [e2]
              unfold dl TS.to
              cases o.dst <;> rfl
          unfold effG at hrun
          rw [guardsOf_congr (t' := tD val pre D) fun x hx => (hreads i o hin ho hreq x hx).symm] at hrun
          split at hrun
          · rename_i gs hgs
            refine stepT_intro (gs := gs) hgs (.inr ⟨qop_eff hef, ?_⟩)
            have hx : ∀ x ∈ opnds o.op, (stripS gs ⟨tA ops val s.t pre, h⟩ : TS).ev x = (stripS gs ⟨tD val pre D, h⟩ : TS).ev x := fun x hx => by
              rw [stripS_ev, stripS_ev]
              congr 1
              cases x with
              | tmp t =>
                have htr : t ∈ reads ops o := List.mem_append_left _ (List.mem_filterMap.2 ⟨.tmp t, hx, rfl⟩)
                exact (hreads i o hin ho hreq t htr).symm
              | const v => rfl
              | global g => rfl
              | func f => rfl
            cases hA : allB gs with
            | true =>
              rw [hA, guardE_true, stripN_eq] at hrun
              rw [guardE_true]
              exact effT_K (fun r h' hP => fin2 r h' hP) (effT_congr (s := stripS gs ⟨tA ops val s.t pre, h⟩) rfl hef hx hrun)
            | false =>
              rw [hA, guardE_false] at hrun
              rw [guardE_false]
              exact fin2 _ _ hrun
          · exact hrun.elim
      · have hin' : n ≤ i := by omega
        have htl := G.tail i o hin' ho
        have hi : i = n := by
          by_cases h1 : n < i
          · have := hreq n (htl n h1)
            rw [hnD n (Nat.le_refl _)] at this; cases this
          · omega
        subst hi
        have hall2 : ∀ j, j < i → D j = true := fun j hj => hreq j (htl j hj)
        have hs0 : suf = [] := by
          cases suf with
          | nil => rfl
          | cons a b =>
            have := hall2 a ((G.mem a).2 (by rw [he]; simp))
            rw [hsD a List.mem_cons_self] at this; cases this
        subst hs0
        have e3 : tD val pre D = tA ops val s.t pre := by
          show tAt ops val s.t ((pre.filter (hasD ops)).filter D) = tAt ops val s.t (pre.filter (hasD ops))
          rw [List.filter_eq_self.2 fun j hj => hall2 j ((G.mem j).2 (by rw [he]; simp [(List.mem_filter.1 hj).1]))]
        rw [e3]
        simp only [runG, fin] at hrun
        rw [drop_at (show ops.toList[i]? = some o by simpa using ho)] at hrun
        refine stepT_K (fun s'' hs'' => SLx.done (.inr ⟨i + 1, by omega, fun j hj => ?_, fun j hj => ?_, hs''⟩)) hrun
        · simp only [doneAt]; split; rfl; exact hall2 j (by omega)
        · simp only [doneAt]; rw [if_neg (by omega)]; exact hnD j (by omega)
    · have hcl : ∀ j ∈ reqAt ops i, j < i := fun j hj => by
        unfold reqAt at hj
        rw [ho] at hj
        exact reqs_lt j hj
      have hik : k ≤ i := by
        by_cases h1 : k ≤ i
        · exact h1
        · rw [hk1 i (by omega)] at hD; cases hD
      have hClsd : Clsd ops D := fun a p j hp ha hw => by
        by_cases hjk : j < k
        · exact hk1 j hjk
        · exfalso
          have hak : a < k := by
            by_cases h1 : a < k
            · exact h1
            · rw [hk2 a (by omega)] at ha; cases ha
          have : j < a := edge_lt hedge hp hw
          omega
      have hreq : ∀ j ∈ reqAt ops i, D j = true := fun j hj => by
        unfold reqAt at hj
        rw [ho] at hj
        exact reqs_done hall hClsd j (by simpa using hj)
      have hi : i = k := by
        by_cases h1 : k < i
        · have := hreq k (G.tail i o (by omega) ho k h1)
          rw [hk2 k (Nat.le_refl _)] at this; cases this
        · omega
      subst hi
      rw [drop_at (show ops.toList[i]? = some o by simpa using ho)] at hk3
      refine stepT_K (fun s'' hs'' => SLx.done (.inr ⟨i + 1, by omega, fun j hj => ?_, fun j hj => ?_, hs''⟩)) hk3
      · simp only [doneAt]; split; rfl; exact hk1 j (by omega)
      · simp only [doneAt]; rw [if_neg (by omega)]; exact hk2 j (by omega)
  · rcases hF with ⟨pre, suf, val, h, he, hsuf, hpe, hsD, hnD, hcl, hst, hrun, rfl⟩ | ⟨k, hk, hk1, hk2, hk3⟩
    · have hsz : ops.size = n := by
        have := G.sz
        by_cases h1 : n < ops.size
        · have := hall n h1; rw [hnD n (Nat.le_refl _)] at this; cases this
        · omega
      have hs0 : suf = [] := by
        cases suf with
        | nil => rfl
        | cons a b =>
          have := hall a (by rw [hsz]; exact (G.mem a).2 (by rw [he]; simp))
          rw [hsD a List.mem_cons_self] at this; cases this
      subst hs0
      have e3 : tD val pre D = tA ops val s.t pre := by
        show tAt ops val s.t ((pre.filter (hasD ops)).filter D) = tAt ops val s.t (pre.filter (hasD ops))
        rw [List.filter_eq_self.2 fun j hj => hall j (by rw [hsz]; exact (G.mem j).2 (by rw [he]; simp [(List.mem_filter.1 hj).1]))]
      rw [e3]
      simp only [runG, fin] at hrun
      have : ops.toList.drop n = [] := List.drop_eq_nil_of_le (by simp; omega)
      rw [this] at hrun
      exact hrun
    · have hsz : ops.size ≤ k := by
        by_cases h1 : k < ops.size
        · have := hall k h1; rw [hk2 k (Nat.le_refl _)] at this; cases this
        · omega
      have : ops.toList.drop k = [] := List.drop_eq_nil_of_le (by simpa using hsz)
      rw [this] at hk3
      exact hk3

/- Rules for simp, by the shape of the memory. -/
section
variable {tab : List (Nat × List Nat)} {fin : List (Nat × TV) → Heap → Prop} {rq : List Nat} {t : List (Nat × TV)} {p : Nat × Nat × Blk} {h : Heap} {i : Nat} {l pre : List Nat}
@[simp] theorem runG_nil : runG P ops tab fin [] pre t h = fin t h := rfl
@[simp] theorem runG_cons0 : runG P ops tab fin (i :: l) pre t [] = (match ops[i]? with
    | none => False
    | some o => if isEff o.op = true then effG P ops o t [] fun r h' => stabL P ops h' (lk tab i) (dl o.dst r t) pre ∧ runG P ops tab fin l (i :: pre) (dl o.dst r t) h'
        else chStep P ops (fun _ : Unit => []) () o (fun _ => True) t fun t' _ => runG P ops tab fin l (i :: pre) t' []) := rfl
@[simp] theorem runG_cons1 : runG P ops tab fin (i :: l) pre t (p :: h) = (match ops[i]? with
    | none => False
    | some o => if isEff o.op = true then effG P ops o t (p :: h) fun r h' => stabL P ops h' (lk tab i) (dl o.dst r t) pre ∧ runG P ops tab fin l (i :: pre) (dl o.dst r t) h'
        else chStep P ops (fun _ : Unit => p :: h) () o (fun _ => True) t fun t' _ => runG P ops tab fin l (i :: pre) t' (p :: h)) := rfl
@[simp] theorem stabL_nil : stabL P ops h rq t [] = True := rfl
@[simp] theorem stabL_cons0 : stabL P ops [] rq t (i :: l) = ((match ops[i]? with
      | some o => if (isEff o.op || rq.contains i || freeOp o) = true then True else chStep P ops (fun _ : Unit => []) () o (fun _ => True) t (fun t2 _ => t2 = (o.dst.getD 0, getT t (o.dst.getD 0)) :: t)
      | none => True) ∧ stabL P ops [] rq t l) := rfl
@[simp] theorem stabL_cons1 : stabL P ops (p :: h) rq t (i :: l) = ((match ops[i]? with
      | some o => if (isEff o.op || rq.contains i || freeOp o) = true then True else chStep P ops (fun _ : Unit => p :: h) () o (fun _ => True) t (fun t2 _ => t2 = (o.dst.getD 0, getT t (o.dst.getD 0)) :: t)
      | none => True) ∧ stabL P ops (p :: h) rq t l) := rfl
end
end
end Go.Proofs.YtnkdkajllmopaaaGreat.TL

namespace Go.Proofs.YtnkdkajllmopaaaGreat.TL
open Go
set_option linter.unusedVariables false
set_option linter.unusedSimpArgs false

/-- A plan of a region: which operation comes next; alt: either of two effects. -/
inductive Pl where
  | nil
  | op (i : Nat) (p : Pl)
  | alt (i : Nat) (p : Pl) (j : Nat) (q : Pl)
  | alt3 (i : Nat) (p : Pl) (j : Nat) (q : Pl) (k : Nat) (r : Pl)
def pl : List Nat → Pl → Pl
  | [], p => p
  | i :: l, p => .op i (pl l p)
@[simp] theorem pl_nil (p : Pl) : pl [] p = p := rfl
@[simp] theorem pl_cons (i : Nat) (l : List Nat) (p : Pl) : pl (i :: l) p = .op i (pl l p) := rfl

section
variable {P : Program} {ops : Array Oper}

def stepP (P : Program) (ops : Array Oper) (tab : List (Nat × List Nat)) (i : Nat) (pre : List Nat) (t : List (Nat × TV)) (h : Heap) (K : List (Nat × TV) → Heap → Prop) : Prop :=
  match ops[i]? with
  | none => False
  | some o => if isEff o.op = true then effG P ops o t h fun r h' => stabL P ops h' (lk tab i) (dl o.dst r t) pre ∧ K (dl o.dst r t) h'
      else chStep P ops (fun _ : Unit => h) () o (fun _ => True) t fun t' _ => K t' h
def runP (P : Program) (ops : Array Oper) (tab : List (Nat × List Nat)) (fin : List (Nat × TV) → Heap → Prop) : Pl → List Nat → List (Nat × TV) → Heap → Prop
  | .nil, _, t, h => fin t h
  | .op i p, pre, t, h => stepP P ops tab i pre t h fun t' h' => runP P ops tab fin p (i :: pre) t' h'
  | .alt i p j q, pre, t, h => (stepP P ops tab i pre t h fun t' h' => runP P ops tab fin p (i :: pre) t' h') ∧ (stepP P ops tab j pre t h fun t' h' => runP P ops tab fin q (j :: pre) t' h')
  | .alt3 i p j q k r, pre, t, h => (stepP P ops tab i pre t h fun t' h' => runP P ops tab fin p (i :: pre) t' h') ∧ (stepP P ops tab j pre t h fun t' h' => runP P ops tab fin q (j :: pre) t' h') ∧ (stepP P ops tab k pre t h fun t' h' => runP P ops tab fin r (k :: pre) t' h')

def stO (ops : Array Oper) (n : Nat) (pre : List Nat) (i : Nat) : Bool := decide (i < n) && !pre.contains i && (reqAt ops i).all fun j => pre.contains j
def plB (ops : Array Oper) (n : Nat) : List Nat → Pl → Bool
  | pre, .nil => (List.range n).all fun i => pre.contains i
  | pre, .op i p => stO ops n pre i && (!effAt ops i || (List.range n).all fun j => pre.contains j || decide (j = i) || (reqAt ops j).contains i) && plB ops n (i :: pre) p
  | pre, .alt i p j q => effAt ops i && effAt ops j && stO ops n pre i && stO ops n pre j && ((List.range n).all fun k => pre.contains k || decide (k = i) || decide (k = j) || (reqAt ops k).contains i || (reqAt ops k).contains j) &&
      plB ops n (i :: pre) p && plB ops n (j :: pre) q
  | pre, .alt3 i p j q k r => effAt ops i && effAt ops j && effAt ops k && stO ops n pre i && stO ops n pre j && stO ops n pre k && ((List.range n).all fun x => pre.contains x || decide (x = i) || decide (x = j) || decide (x = k) || (reqAt ops x).contains i || (reqAt ops x).contains j || (reqAt ops x).contains k) &&
      plB ops n (i :: pre) p && plB ops n (j :: pre) q && plB ops n (k :: pre) r
def hB (ops : Array Oper) (n : Nat) (tab : List (Nat × List Nat)) : Bool :=
  decide (n ≤ ops.size) &&
  ((List.range n).all fun i => match ops[i]? with
    | some o => (if isEff o.op then (lk tab i == reqs ops o i) else o.dst.isSome) && ((reads ops o).all fun x => (List.range n).all fun j => !hasD ops j || decide (dstAt ops j ≠ x) || (reqs ops o i).contains j) &&
        (List.range n).all fun j => !hasD ops i || !hasD ops j || decide (dstAt ops i ≠ dstAt ops j) || decide (i = j)
    | none => false) &&
  ((List.range ops.size).all fun i => decide (i < n) || match ops[i]? with | some o => (List.range i).all fun j => (reqs ops o i).contains j | none => false)

structure HOk (ops : Array Oper) (n : Nat) (tab : List (Nat × List Nat)) : Prop where
  sz : n ≤ ops.size
  eff : ∀ i o, i < n → ops[i]? = some o → isEff o.op = true → lk tab i = reqAt ops i
  qui : ∀ i o, i < n → ops[i]? = some o → isEff o.op = false → o.dst.isSome = true
  rd : ∀ i o, i < n → ops[i]? = some o → ∀ x ∈ reads ops o, ∀ j, j < n → hasD ops j = true → dstAt ops j = x → j ∈ reqAt ops i
  uni : ∀ i j, i < n → j < n → hasD ops i = true → hasD ops j = true → dstAt ops i = dstAt ops j → i = j
  tail : ∀ i o, n ≤ i → ops[i]? = some o → ∀ j, j < i → j ∈ reqAt ops i
structure StO (ops : Array Oper) (n : Nat) (pre : List Nat) (i : Nat) : Prop where
  lt : i < n
  new : i ∉ pre
  req : ∀ j ∈ reqAt ops i, j ∈ pre
def PlOk (ops : Array Oper) (n : Nat) : List Nat → Pl → Prop
  | pre, .nil => ∀ i, i < n → i ∈ pre
  | pre, .op i p => StO ops n pre i ∧ (effAt ops i = true → ∀ j, j < n → j ∉ pre → j ≠ i → i ∈ reqAt ops j) ∧ PlOk ops n (i :: pre) p
  | pre, .alt i p j q => effAt ops i = true ∧ effAt ops j = true ∧ StO ops n pre i ∧ StO ops n pre j ∧ (∀ k, k < n → k ∉ pre → k ≠ i → k ≠ j → i ∈ reqAt ops k ∨ j ∈ reqAt ops k) ∧ PlOk ops n (i :: pre) p ∧ PlOk ops n (j :: pre) q
  | pre, .alt3 i p j q k r => (effAt ops i = true ∧ effAt ops j = true ∧ effAt ops k = true) ∧ (StO ops n pre i ∧ StO ops n pre j ∧ StO ops n pre k) ∧ (∀ x, x < n → x ∉ pre → x ≠ i → x ≠ j → x ≠ k → i ∈ reqAt ops x ∨ j ∈ reqAt ops x ∨ k ∈ reqAt ops x) ∧ PlOk ops n (i :: pre) p ∧ PlOk ops n (j :: pre) q ∧ PlOk ops n (k :: pre) r
def GI (ops : Array Oper) (n : Nat) (pre : List Nat) : Prop := pre.Nodup ∧ ∀ i ∈ pre, i < n ∧ ∀ j ∈ reqAt ops i, j ∈ pre

theorem stO_ok {n i : Nat} {pre : List Nat} (h : stO ops n pre i = true) : StO ops n pre i := by
  unfold stO at h
  simp only [Bool.and_eq_true, decide_eq_true_eq, Bool.not_eq_true', List.all_eq_true] at h
  exact ⟨h.1.1, by simpa using h.1.2, fun j hj => by simpa using h.2 j hj⟩
theorem plB_ok {n : Nat} : ∀ (p : Pl) (pre : List Nat), plB ops n pre p = true → PlOk ops n pre p
  | .nil, pre, h => fun i hi => by
    simp only [plB, List.all_eq_true] at h
    simpa using h i (by simpa using hi)
  | .op i p, pre, h => by
    simp only [plB, Bool.and_eq_true] at h
    refine ⟨stO_ok h.1.1, fun he j hj hjp hji => ?_, plB_ok p _ h.2⟩
    have h2 := h.1.2
    simp only [he, Bool.not_true, Bool.false_or, List.all_eq_true] at h2
    have := h2 j (by simpa using hj)
    simpa [hjp, hji] using this
  | .alt i p j q, pre, h => by
    simp only [plB, Bool.and_eq_true] at h
    obtain ⟨⟨⟨⟨⟨⟨h1, h2⟩, h3⟩, h4⟩, h5⟩, h6⟩, h7⟩ := h
    refine ⟨h1, h2, stO_ok h3, stO_ok h4, fun k hk hkp hki hkj => ?_, plB_ok p _ h6, plB_ok q _ h7⟩
    have := List.all_eq_true.1 h5 k (by simpa using hk)
    simpa [hkp, hki, hkj] using this
  | .alt3 i p j q k r, pre, h => by
    simp only [plB, Bool.and_eq_true] at h
    obtain ⟨⟨⟨⟨⟨⟨⟨⟨⟨h1, h2⟩, h3⟩, h4⟩, h5⟩, h6⟩, h7⟩, h8⟩, h9⟩, h10⟩ := h
    refine ⟨⟨h1, h2, h3⟩, ⟨stO_ok h4, stO_ok h5, stO_ok h6⟩, fun x hx hxp hxi hxj hxk => ?_, plB_ok p _ h8, plB_ok q _ h9, plB_ok r _ h10⟩
    have := List.all_eq_true.1 h7 x (by simpa using hx)
    simpa [hxp, hxi, hxj, hxk, or_assoc] using this
theorem hB_ok {n : Nat} {tab : List (Nat × List Nat)} (h : hB ops n tab = true) : HOk ops n tab := by
  unfold hB at h
  simp only [Bool.and_eq_true, decide_eq_true_eq] at h
  obtain ⟨⟨h1, h5⟩, h8⟩ := h
  have h5' := List.all_eq_true.1 h5
  have h8' := List.all_eq_true.1 h8
  have g5 : ∀ i o, i < n → ops[i]? = some o → (if isEff o.op then (lk tab i == reqs ops o i) else o.dst.isSome) = true ∧ ((reads ops o).all fun x => (List.range n).all fun j => !hasD ops j || decide (dstAt ops j ≠ x) || (reqs ops o i).contains j) = true ∧
      ((List.range n).all fun j => !hasD ops i || !hasD ops j || decide (dstAt ops i ≠ dstAt ops j) || decide (i = j)) = true := fun i o hi ho => by
    have := h5' i (by simpa using hi)
    rw [ho] at this
    simp only [Bool.and_eq_true] at this
    exact ⟨this.1.1, this.1.2, this.2⟩
  have hreq : ∀ i o, ops[i]? = some o → reqAt ops i = reqs ops o i := fun i o ho => by simp only [reqAt, ho]
  refine ⟨h1, fun i o hi ho he => ?_, fun i o hi ho he => ?_, fun i o hi ho x hx j hj hd hjx => ?_, fun i j hi hj hdi hdj hij => ?_, fun i o hi ho j hj => ?_⟩
  · have := (g5 i o hi ho).1
    rw [he] at this
    simp only [if_true, beq_iff_eq] at this
    rw [hreq i o ho]; exact this
  · have := (g5 i o hi ho).1
    rw [he] at this
    simpa using this
  · have := List.all_eq_true.1 (List.all_eq_true.1 (g5 i o hi ho).2.1 x hx) j (by simpa using hj)
    simp only [hd, hjx, ne_eq, not_true_eq_false, decide_false, Bool.not_true, Bool.false_or] at this
    rw [hreq i o ho]
    simpa using this
  · obtain ⟨o, ho⟩ : ∃ o, ops[i]? = some o := ⟨ops[i]'(by omega), Array.getElem?_eq_getElem _⟩
    have := List.all_eq_true.1 (g5 i o hi ho).2.2 j (by simpa using hj)
    simp only [hdi, hdj, hij, ne_eq, not_true_eq_false, decide_false, Bool.not_true, Bool.false_or, decide_eq_true_eq] at this
    exact this
  · have := h8' i (by simpa using (Array.getElem?_eq_some_iff.1 ho).1)
    rw [ho] at this
    simp only [Bool.or_eq_true, decide_eq_true_eq] at this
    rcases this with h | h
    · omega
    · have := List.all_eq_true.1 h j (by simpa using hj)
      rw [hreq i o ho]
      simpa using this

variable {n : Nat} {tab : List (Nat × List Nat)} {t0 : List (Nat × TV)}

theorem GI.cons {pre : List Nat} (hG : GI ops n pre) {i : Nat} (hs : StO ops n pre i) : GI ops n (i :: pre) :=
  ⟨List.nodup_cons.2 ⟨hs.new, hG.1⟩, fun k hk => by
    rcases List.mem_cons.1 hk with rfl | hk
    · exact ⟨hs.lt, fun j hj => List.mem_cons_of_mem _ (hs.req j hj)⟩
    · exact ⟨(hG.2 k hk).1, fun j hj => List.mem_cons_of_mem _ ((hG.2 k hk).2 j hj)⟩⟩

theorem noWriteP (H : HOk ops n tab) {pre new : List Nat} (hG : GI ops n (new ++ pre)) {j : Nat} {o : Oper} (hj : ops[j]? = some o) (hjn : j < n) (hreq : ∀ k ∈ reqAt ops j, k ∈ pre) {x : Nat} (hx : x ∈ reads ops o) : ∀ k ∈ new, hasD ops k = true → dstAt ops k ≠ x := fun k hk hd hkx => by
  have hkn : k < n := (hG.2 k (List.mem_append_left _ hk)).1
  have := hreq k (H.rd j o hjn hj x hx k hkn hd hkx)
  have h2 := hG.1
  rw [List.nodup_append] at h2
  exact h2.2.2 k hk k this rfl

def hdE (ops : Array Oper) : Pl → Prop
  | .op i _ => effAt ops i = true
  | _ => True

theorem advP (H : HOk ops n tab) {fin : List (Nat × TV) → Heap → Prop} {h : Heap} : ∀ (p : Pl) (pre : List Nat) (val : Nat → TV), PlOk ops n pre p → GI ops n pre → runP P ops tab fin p pre (tA ops val t0 pre) h →
    ∃ p2 new val2, PlOk ops n (new ++ pre) p2 ∧ GI ops n (new ++ pre) ∧ hdE ops p2 ∧ (∀ j ∈ pre, val2 j = val j) ∧ (∀ j ∈ new, effAt ops j = false ∧ Stab P ops t0 h val2 (new ++ pre) j) ∧ runP P ops tab fin p2 (new ++ pre) (tA ops val2 t0 (new ++ pre)) h
  | .nil, pre, val, hp, hG, hr => ⟨.nil, [], val, hp, hG, trivial, fun _ _ => rfl, fun j hj => (by cases hj), hr⟩
  | .alt i p j q, pre, val, hp, hG, hr => ⟨.alt i p j q, [], val, hp, hG, trivial, fun _ _ => rfl, fun j hj => (by cases hj), hr⟩
  | .alt3 i p j q k r, pre, val, hp, hG, hr => ⟨.alt3 i p j q k r, [], val, hp, hG, trivial, fun _ _ => rfl, fun j hj => (by cases hj), hr⟩
  | .op i p, pre, val, hp, hG, hr => by
    have hs := hp.1
    obtain ⟨o, ho⟩ : ∃ o, ops[i]? = some o := ⟨ops[i]'(by have := H.sz; have := hs.lt; omega), Array.getElem?_eq_getElem _⟩
    cases hef : isEff o.op with
    | true => exact ⟨.op i p, [], val, hp, hG, by simp only [hdE, effAt, ho]; exact hef, fun _ _ => rfl, fun j hj => (by cases hj), hr⟩
    | false =>
      simp only [runP, stepP, ho, hef, Bool.false_eq_true, if_false] at hr
      obtain ⟨v, J', h1, h2⟩ := chStep_get hr
      have hip := hs.new
      have hd := H.qui i o hs.lt ho hef
      have hdi : hasD ops i = true := by simp only [hasD, ho]; exact hd
      have hdst : o.dst.getD 0 = dstAt ops i := by simp [dstAt, ho]
      obtain ⟨val1, hval1⟩ : ∃ val1 : Nat → TV, val1 = fun j => if j = i then v else val j := ⟨_, rfl⟩
      have hv1 : ∀ j ∈ pre, val1 j = val j := fun j hj => by rw [hval1]; exact if_neg (fun hh : j = i => hip (hh ▸ hj))
      have hvi : val1 i = v := by rw [hval1]; simp
      have e1 : tA ops val1 t0 (i :: pre) = (o.dst.getD 0, v) :: tA ops val t0 pre := by
        rw [tA_cons, if_pos hdi, hvi, tA_val hv1, hdst]
      obtain ⟨p2, new, val2, k1, k2, k3, k4, k5, k6⟩ := advP H p (i :: pre) val1 hp.2.2 (hG.cons hs) (by rw [e1]; exact h1)
      have ea : new ++ [i] ++ pre = new ++ i :: pre := by simp
      refine ⟨p2, new ++ [i], val2, by rw [ea]; exact k1, by rw [ea]; exact k2, k3, fun j hj => by rw [k4 j (List.mem_cons_of_mem _ hj), hv1 j hj], fun j hj => ?_, by rw [ea]; exact k6⟩
      rw [ea]
      rcases List.mem_append.1 hj with hj | hj
      · exact k5 j hj
      · have : j = i := by simpa using hj
        subst this
        refine ⟨by simp only [effAt, ho]; exact hef, o, tA ops val t0 pre, ho, fun x hx => ?_, ?_⟩
        · have := tA_app (x := x) (t0 := t0) (val := val) (val' := val2) (pre := pre) (fun k hk => by rw [k4 k (List.mem_cons_of_mem _ hk), hv1 k hk]) (new ++ [j]) (noWriteP H (by rw [ea]; exact k2) ho hs.lt hs.req hx)
          rw [← this, ea]
        · rw [k4 j List.mem_cons_self, hvi]
          exact chStep_J (fun t2 J2 hh => hh.1) hef h2

/-- A REGION WHOSE ORDER IS DRAWN: p a plan of its first n operations; tab: what each effect waits for. -/
theorem draw_h {s : TS} {K : TS → Prop} (p : Pl) (n : Nat) (tab : List (Nat × List Nat)) (hm : P.follows .mixedOrders = true) (hedge : edgesOk ops = true) (hB1 : hB ops n tab = true) (hB2 : plB ops n [] p = true)
    (h : runP P ops tab (fun t h => opsT P ops (ops.toList.drop n) ⟨t, h⟩ K) p [] s.t s.h) : drawT P ops s K := by
  have H := hB_ok hB1
  have HP := plB_ok p [] hB2
  let fin := fun (t : List (Nat × TV)) (h : Heap) => opsT P ops (ops.toList.drop n) ⟨t, h⟩ K
  let tD := fun (val : Nat → TV) (pre : List Nat) (D : Nat → Bool) => tAt ops val s.t ((pre.filter (hasD ops)).filter D)
  let FF : (Nat → Bool) → TS → Prop := fun D s' => (∃ (pre : List Nat) (p : Pl) (val : Nat → TV) (h : Heap), PlOk ops n pre p ∧ GI ops n pre ∧ hdE ops p ∧ (∀ i ∈ pre, effAt ops i = true → D i = true) ∧ (∀ i, i < n → i ∉ pre → D i = false) ∧ (∀ i, n ≤ i → D i = false) ∧ Clsd ops D ∧
      (∀ j ∈ pre, effAt ops j = false → D j = false → Stab P ops s.t h val pre j) ∧ runP P ops tab fin p pre (tA ops val s.t pre) h ∧ s' = ⟨tD val pre D, h⟩) ∨
    (∃ k, n ≤ k ∧ (∀ i, i < k → D i = true) ∧ (∀ i, k ≤ i → D i = false) ∧ opsT P ops (ops.toList.drop k) s' K)
  refine draw_F hm hedge FF ?_ (fun D s' hF i o ho hD hall => ?_) fun D s' hall hF => ?_
  · obtain ⟨p2, new, val2, k1, k2, k3, k4, k5, k6⟩ := advP (t0 := s.t) H (fin := fin) p [] (fun _ => .any) HP ⟨List.nodup_nil, fun i hi => (by cases hi)⟩ (by simpa [tA, tAt] using h)
    rw [List.append_nil] at k1 k2 k6
    have k5' : ∀ j ∈ new, effAt ops j = false → (fun _ : Nat => false) j = false → Stab P ops s.t s.h val2 new j := fun j hj _ _ => by
      have := (k5 j hj).2
      rwa [List.append_nil] at this
    refine SLx.ext (s' := ⟨tD val2 new fun _ => false, s.h⟩) (.inl ⟨new, p2, val2, s.h, k1, k2, k3, fun i hi he => (by rw [(k5 i hi).1] at he; cases he), fun _ _ _ => rfl, fun _ _ => rfl, fun k p j _ h _ => (Bool.false_ne_true h).elim, k5', k6, rfl⟩) (fun x => ?_) rfl
    show getT (tAt ops val2 s.t ((new.filter (hasD ops)).filter fun _ => false)) x = _
    rw [show (new.filter (hasD ops)).filter (fun _ => false) = [] by simp]
    rfl
  · rcases hF with ⟨pre, q, val, h, hpl, hgi, hhd0, hpe, hsD, hnD, hcl, hst, hrun, rfl⟩ | ⟨k, hk, hk1, hk2, hk3⟩
    · have hcl' := hcl.step ho hall
      have hreq : ∀ j ∈ reqAt ops i, D j = true := fun j hj => by
        unfold reqAt at hj
        rw [ho] at hj
        exact reqs_done hall hcl j (by simpa using hj)
      have hreads : ∀ j oj, j < n → ops[j]? = some oj → (∀ k ∈ reqAt ops j, D k = true) → ∀ x ∈ reads ops oj, getT (tD val pre D) x = getT (tA ops val s.t pre) x := fun j oj hjn hj hr x hx => by
        refine agreeG fun k hk hkx => ?_
        have hk2 := List.mem_filter.1 hk
        exact hr k (H.rd j oj hjn hj x hx k (hgi.2 k hk2.1).1 hk2.2 hkx)
      by_cases hin : i < n
      · by_cases hip : i ∈ pre
        · have hei : effAt ops i = false := by
            cases hh : effAt ops i with
            | false => rfl
            | true => rw [hpe i hip hh] at hD; cases hD
          have hef : isEff o.op = false := by simpa only [effAt, ho] using hei
          obtain ⟨o', T, h1, h2, h3⟩ := hst i hip hei hD
          rw [ho] at h1
          cases h1
          obtain ⟨d, hd⟩ := Option.isSome_iff_exists.1 (H.qui i o hin ho hef)
          have hdi : dstAt ops i = d := by simp [dstAt, ho, hd]
          have hhd : hasD ops i = true := by simp [hasD, ho, hd]
          refine (chStep_stepT (x := ()) (J' := fun _ => True) (v := val i) hd (t' := tD val pre D) (fun x hx => by rw [h2 x hx, hreads i o hin ho hreq x hx]) h3 (fun hh => by rw [hef] at hh; cases hh) fun y hy1 hy2 => ?_).2
          refine SLx.ext (s' := ⟨tD val pre (doneAt D i), h⟩) (.inl ⟨pre, q, val, h, hpl, hgi, hhd0, fun j hj hje => ?_, fun j hj hjp => ?_, fun j hj => ?_, hcl', fun j hj hje hjD => ?_, hrun, rfl⟩) (fun x => ?_) rfl
          · simp only [doneAt]; split; rfl; exact hpe j hj hje
          · simp only [doneAt]
            rw [if_neg (fun hji => ?_)]
            · exact hsD j hj hjp
            · exact hjp (hji ▸ hip)
          · simp only [doneAt]; rw [if_neg (by omega)]; exact hnD j hj
          · simp only [doneAt] at hjD
            split at hjD
            · cases hjD
            · exact hst j hj hje hjD
          · rw [← hdi]
            refine putG x (List.mem_filter.2 ⟨hip, hhd⟩) (fun j hj hji => ?_) ?_
            · have hj2 := List.mem_filter.1 hj
              exact H.uni j i (hgi.2 j hj2.1).1 hin hj2.2 hhd hji
            · exact hgi.1.sublist List.filter_sublist
        · have pick : ∀ l : Pl, effAt ops i = true → StO ops n pre i → PlOk ops n (i :: pre) l → (stepP P ops tab i pre (tA ops val s.t pre) h fun t' h' => runP P ops tab fin l (i :: pre) t' h') → stepT P ops o ⟨tD val pre D, h⟩ fun s'' => SLx s'' (FF (doneAt D i)) := fun l hee hso hpl2 hrun => by
            have hef : isEff o.op = true := by simpa only [effAt, ho] using hee
            have htab := H.eff i o hin ho hef
            simp only [stepP, ho, hef, if_true] at hrun
            have fin2 : ∀ r h', (stabL P ops h' (lk tab i) (dl o.dst r (tA ops val s.t pre)) pre ∧ runP P ops tab fin l (i :: pre) (dl o.dst r (tA ops val s.t pre)) h') → SLx ((⟨tD val pre D, h⟩ : TS).to o.dst r h') (FF (doneAt D i)) := fun r h' hP => by
              obtain ⟨hP1, hP2⟩ := hP
              obtain ⟨val1, hval1⟩ : ∃ val1 : Nat → TV, val1 = fun j => if j = i then r else val j := ⟨_, rfl⟩
              have hv1 : ∀ j ∈ pre, val1 j = val j := fun j hj => by rw [hval1]; exact if_neg (fun hh : j = i => hip (hh ▸ hj))
              have hvi : val1 i = r := by rw [hval1]; simp
              have e1 : tA ops val1 s.t (i :: pre) = dl o.dst r (tA ops val s.t pre) := by
                rw [tA_cons, hvi, tA_val hv1]
                unfold dl
                cases hod : o.dst with
                | none => rw [if_neg (by simp [hasD, ho, hod])]
                | some d => rw [if_pos (by simp [hasD, ho, hod]), show dstAt ops i = d by simp [dstAt, ho, hod]]
              obtain ⟨p2, new, val2, k1, k2, k3, k4, k5, k6⟩ := advP (t0 := s.t) H (fin := fin) l (i :: pre) val1 hpl2 (hgi.cons hso) (by rw [e1]; exact hP2)
              have hnewi : ∀ j ∈ new, j ≠ i ∧ j ∉ pre := fun j hj => by
                have h2 := k2.1
                rw [List.nodup_append] at h2
                exact ⟨fun hh => h2.2.2 j hj i List.mem_cons_self hh, fun hh => h2.2.2 j hj j (List.mem_cons_of_mem _ hh) rfl⟩
              have hv2 : ∀ j ∈ pre, val2 j = val j := fun j hj => by rw [k4 j (List.mem_cons_of_mem _ hj), hv1 j hj]
              refine SLx.ext (s' := ⟨tD val2 (new ++ i :: pre) (doneAt D i), h'⟩) (.inl ⟨new ++ i :: pre, p2, val2, h', k1, k2, k3, fun j hj hje => ?_, fun j hj hjp => ?_, fun j hj => ?_, hcl', fun j hj hje hjD => ?_, k6, rfl⟩) (fun x => ?_) (by unfold TS.to; rfl)
              · simp only [doneAt]
                split
                · rfl
                · rename_i hji
                  rcases List.mem_append.1 hj with hj | hj
                  · rw [(k5 j hj).1] at hje; cases hje
                  · rcases List.mem_cons.1 hj with hj | hj
                    · exact absurd hj hji
                    · exact hpe j hj hje
              · have hji : j ≠ i := fun hh => hjp (by rw [hh]; simp)
                simp only [doneAt]
                rw [if_neg hji]
                exact hsD j hj fun hh => hjp (by simp [hh])
              · simp only [doneAt]; rw [if_neg (by omega)]; exact hnD j hj
              · simp only [doneAt] at hjD
                split at hjD
                · cases hjD
                · rename_i hji
                  rcases List.mem_append.1 hj with hj | hj
                  · exact (k5 j hj).2
                  · rcases List.mem_cons.1 hj with hj | hj
                    · exact absurd hj hji
                    · obtain ⟨oj, T, g1, g2, g3⟩ := hst j hj hje hjD
                      have hjn : j < n := (hgi.2 j hj).1
                      have hefj : isEff oj.op = false := by simpa only [effAt, g1] using hje
                      have hreqj := (hgi.2 j hj).2
                      have hjr : (lk tab i).contains j = false := by
                        rw [htab]
                        cases hh : (reqAt ops i).contains j with
                        | false => rfl
                        | true => rw [hreq j (by simpa using hh)] at hjD; cases hjD
                      cases hfr : freeOp oj with
                      | true =>
                        refine ⟨oj, T, g1, fun x hx => ?_, ?_⟩
                        · rw [g2 x hx]
                          have := tA_app (x := x) (t0 := s.t) (val := val) (val' := val2) (pre := pre) hv2 (new ++ [i]) (noWriteP H (by rw [List.append_assoc, List.singleton_append]; exact k2) g1 hjn hreqj hx)
                          rw [← this, List.append_assoc, List.singleton_append]
                        · rw [hv2 j hj]
                          exact qstep_free hfr g3
                      | false =>
                        have g4 := stabL_get hP1 j hj oj g1 (by rw [hefj, hjr, hfr]; rfl)
                        have hvj : getT (dl o.dst r (tA ops val s.t pre)) (oj.dst.getD 0) = val j := by
                          rw [← e1]
                          have hdj : oj.dst.getD 0 = dstAt ops j := by simp [dstAt, g1]
                          have hhd : hasD ops j = true := by
                            simp only [hasD, g1]; exact H.qui j oj hjn g1 hefj
                          rw [hdj]
                          unfold tA
                          rw [getT_tAt (j := j) (List.mem_filter.2 ⟨List.mem_cons_of_mem _ hj, hhd⟩) rfl (fun k hk hkx => ?_), hv1 j hj]
                          have hk2 := List.mem_filter.1 hk
                          exact H.uni k j ((hgi.cons hso).2 k hk2.1).1 hjn hk2.2 hhd hkx
                        rw [hvj] at g4
                        refine ⟨oj, tA ops val1 s.t (i :: pre), g1, fun x hx => ?_, ?_⟩
                        · exact (tA_app k4 new (noWriteP H k2 g1 hjn (fun k hk => List.mem_cons_of_mem _ (hreqj k hk)) hx)).symm
                        · rw [e1, hv2 j hj]
                          exact chStep_J (fun t2 J2 hh => hh) hefj g4
              · have hnil : ∀ L : List Nat, (∀ j ∈ L, j ∈ new) → (L.filter (hasD ops)).filter (doneAt D i) = [] := fun L hL => by
                  rw [List.filter_eq_nil_iff]
                  intro j hj
                  have hjl := hL j (List.mem_filter.1 hj).1
                  simp only [doneAt]
                  rw [if_neg (hnewi j hjl).1, hsD j (k2.2 j (List.mem_append_left _ hjl)).1 (hnewi j hjl).2]
                  simp
                have hpre : (pre.filter (hasD ops)).filter (doneAt D i) = (pre.filter (hasD ops)).filter D := List.filter_congr fun j hj => by
                  simp only [doneAt]
                  exact if_neg (fun hh : j = i => hip (hh ▸ (List.mem_filter.1 hj).1))
                have e2 : tD val2 (new ++ i :: pre) (doneAt D i) = dl o.dst r (tD val pre D) := by
                  show tAt ops val2 s.t (((new ++ i :: pre).filter (hasD ops)).filter (doneAt D i)) = dl o.dst r (tAt ops val s.t ((pre.filter (hasD ops)).filter D))
                  rw [List.filter_append, List.filter_append, hnil new fun _ hh => hh, List.nil_append]
                  have hagree : tAt ops val2 s.t ((pre.filter (hasD ops)).filter D) = tAt ops val s.t ((pre.filter (hasD ops)).filter D) := tAt_val fun j hj => hv2 j (List.mem_filter.1 (List.mem_filter.1 hj).1).1
                  unfold dl
                  cases hod : o.dst with
                  | none => rw [List.filter_cons_of_neg (by simp [hasD, ho, hod]), hpre, hagree]
                  | some d =>
                    rw [List.filter_cons_of_pos (by simp [hasD, ho, hod]), List.filter_cons_of_pos (by simp [doneAt]), hpre]
                    show (dstAt ops i, val2 i) :: tAt ops val2 s.t ((pre.filter (hasD ops)).filter D) = _
                    rw [hagree, k4 i List.mem_cons_self, hvi, show dstAt ops i = d by simp [dstAt, ho, hod]]
                show getT (tD val2 (new ++ i :: pre) (doneAt D i)) x = _
                rw [e2]
                unfold dl TS.to
                cases o.dst <;> rfl
            unfold effG at hrun
            rw [guardsOf_congr (t' := tD val pre D) fun x hx => (hreads i o hin ho hreq x hx).symm] at hrun
            split at hrun
            · rename_i gs hgs
              refine stepT_intro (gs := gs) hgs (.inr ⟨qop_eff hef, ?_⟩)
              have hx : ∀ x ∈ opnds o.op, (stripS gs ⟨tA ops val s.t pre, h⟩ : TS).ev x = (stripS gs ⟨tD val pre D, h⟩ : TS).ev x := fun x hx => by
                rw [stripS_ev, stripS_ev]
                congr 1
                cases x with
                | tmp t =>
                  have htr : t ∈ reads ops o := List.mem_append_left _ (List.mem_filterMap.2 ⟨.tmp t, hx, rfl⟩)
                  exact (hreads i o hin ho hreq t htr).symm
                | const v => rfl
                | global g => rfl
                | func f => rfl
              cases hA : allB gs with
              | true =>
                rw [hA, guardE_true, stripN_eq] at hrun
                rw [guardE_true]
                exact effT_K (fun r h' hP => fin2 r h' hP) (effT_congr (s := stripS gs ⟨tA ops val s.t pre, h⟩) rfl hef hx hrun)
              | false =>
                rw [hA, guardE_false] at hrun
                rw [guardE_false]
                exact fin2 _ _ hrun
            · exact hrun.elim
          cases q with
          | nil => exact absurd (hpl i hin) hip
          | op e l =>
            have hie : i = e := by
              by_cases hh : i = e
              · exact hh
              · have := hreq e (hpl.2.1 hhd0 i hin hip hh)
                rw [hsD e hpl.1.lt hpl.1.new] at this
                cases this
            subst hie
            exact pick l hhd0 hpl.1 hpl.2.2 hrun
          | alt a l b l2 =>
            obtain ⟨q1, q2, q3, q4, q5, q6, q7⟩ := hpl
            by_cases ha : i = a
            · subst ha
              exact pick l q1 q3 q6 hrun.1
            · by_cases hb : i = b
              · subst hb
                exact pick l2 q2 q4 q7 hrun.2
              · rcases q5 i hin hip ha hb with hh | hh
                · have := hreq a hh
                  rw [hsD a q3.lt q3.new] at this
                  cases this
                · have := hreq b hh
                  rw [hsD b q4.lt q4.new] at this
                  cases this
          | alt3 a l b l2 c l3 =>
            obtain ⟨⟨q1, q2, q3⟩, ⟨q4, q5, q6⟩, q7, q8, q9, q10⟩ := hpl
            by_cases ha : i = a
            · subst ha
              exact pick l q1 q4 q8 hrun.1
            · by_cases hb : i = b
              · subst hb
                exact pick l2 q2 q5 q9 hrun.2.1
              · by_cases hc : i = c
                · subst hc
                  exact pick l3 q3 q6 q10 hrun.2.2
                · rcases q7 i hin hip ha hb hc with hh | hh | hh
                  · have := hreq a hh
                    rw [hsD a q4.lt q4.new] at this
                    cases this
                  · have := hreq b hh
                    rw [hsD b q5.lt q5.new] at this
                    cases this
                  · have := hreq c hh
                    rw [hsD c q6.lt q6.new] at this
                    cases this
      · have hin' : n ≤ i := by omega
        have htl := H.tail i o hin' ho
        have hi : i = n := by
          by_cases h1 : n < i
          · have := hreq n (htl n h1)
            rw [hnD n (Nat.le_refl _)] at this; cases this
          · omega
        subst hi
        have hall2 : ∀ j, j < i → D j = true := fun j hj => hreq j (htl j hj)
        have hs0 : q = .nil := by
          cases q with
          | nil => rfl
          | op a b =>
            have := hall2 a hpl.1.lt
            rw [hsD a hpl.1.lt hpl.1.new] at this; cases this
          | alt a b c d =>
            have := hall2 a hpl.2.2.1.lt
            rw [hsD a hpl.2.2.1.lt hpl.2.2.1.new] at this; cases this
          | alt3 a b c d e f =>
            have := hall2 a hpl.2.1.1.lt
            rw [hsD a hpl.2.1.1.lt hpl.2.1.1.new] at this; cases this
        subst hs0
        have e3 : tD val pre D = tA ops val s.t pre := by
          show tAt ops val s.t ((pre.filter (hasD ops)).filter D) = tAt ops val s.t (pre.filter (hasD ops))
          rw [List.filter_eq_self.2 fun j hj => hall2 j (hgi.2 j (List.mem_filter.1 hj).1).1]
        rw [e3]
        simp only [runP, fin] at hrun
        rw [drop_at (show ops.toList[i]? = some o by simpa using ho)] at hrun
        refine stepT_K (fun s'' hs'' => SLx.done (.inr ⟨i + 1, by omega, fun j hj => ?_, fun j hj => ?_, hs''⟩)) hrun
        · simp only [doneAt]; split; rfl; exact hall2 j (by omega)
        · simp only [doneAt]; rw [if_neg (by omega)]; exact hnD j (by omega)
    · have hcl : ∀ j ∈ reqAt ops i, j < i := fun j hj => by
        unfold reqAt at hj
        rw [ho] at hj
        exact reqs_lt j hj
      have hik : k ≤ i := by
        by_cases h1 : k ≤ i
        · exact h1
        · rw [hk1 i (by omega)] at hD; cases hD
      have hClsd : Clsd ops D := fun a p j hp ha hw => by
        by_cases hjk : j < k
        · exact hk1 j hjk
        · exfalso
          have hak : a < k := by
            by_cases h1 : a < k
            · exact h1
            · rw [hk2 a (by omega)] at ha; cases ha
          have : j < a := edge_lt hedge hp hw
          omega
      have hreq : ∀ j ∈ reqAt ops i, D j = true := fun j hj => by
        unfold reqAt at hj
        rw [ho] at hj
        exact reqs_done hall hClsd j (by simpa using hj)
      have hi : i = k := by
        by_cases h1 : k < i
        · have := hreq k (H.tail i o (by omega) ho k h1)
          rw [hk2 k (Nat.le_refl _)] at this; cases this
        · omega
      subst hi
      rw [drop_at (show ops.toList[i]? = some o by simpa using ho)] at hk3
      refine stepT_K (fun s'' hs'' => SLx.done (.inr ⟨i + 1, by omega, fun j hj => ?_, fun j hj => ?_, hs''⟩)) hk3
      · simp only [doneAt]; split; rfl; exact hk1 j (by omega)
      · simp only [doneAt]; rw [if_neg (by omega)]; exact hk2 j (by omega)
  · rcases hF with ⟨pre, q, val, h, hpl, hgi, hhd0, hpe, hsD, hnD, hcl, hst, hrun, rfl⟩ | ⟨k, hk, hk1, hk2, hk3⟩
    · have hsz : ops.size = n := by
        have := H.sz
        by_cases h1 : n < ops.size
        · have := hall n h1; rw [hnD n (Nat.le_refl _)] at this; cases this
        · omega
      have hs0 : q = .nil := by
        cases q with
        | nil => rfl
        | op a b =>
          have := hall a (by rw [hsz]; exact hpl.1.lt)
          rw [hsD a hpl.1.lt hpl.1.new] at this; cases this
        | alt a b c d =>
          have := hall a (by rw [hsz]; exact hpl.2.2.1.lt)
          rw [hsD a hpl.2.2.1.lt hpl.2.2.1.new] at this; cases this
        | alt3 a b c d e f =>
          have := hall a (by rw [hsz]; exact hpl.2.1.1.lt)
          rw [hsD a hpl.2.1.1.lt hpl.2.1.1.new] at this; cases this
      subst hs0
      have e3 : tD val pre D = tA ops val s.t pre := by
        show tAt ops val s.t ((pre.filter (hasD ops)).filter D) = tAt ops val s.t (pre.filter (hasD ops))
        rw [List.filter_eq_self.2 fun j hj => hall j (by rw [hsz]; exact (hgi.2 j (List.mem_filter.1 hj).1).1)]
      rw [e3]
      simp only [runP, fin] at hrun
      have : ops.toList.drop n = [] := List.drop_eq_nil_of_le (by simp; omega)
      rw [this] at hrun
      exact hrun
    · have hsz : ops.size ≤ k := by
        by_cases h1 : k < ops.size
        · have := hall k h1; rw [hk2 k (Nat.le_refl _)] at this; cases this
        · omega
      have : ops.toList.drop k = [] := List.drop_eq_nil_of_le (by simpa using hsz)
      rw [this] at hk3
      exact hk3

def atS {α : Type} (I : α → Prop) (S : α → TS) (s : TS) : Prop := ∃ x, I x ∧ s = S x
theorem SLx.at {α : Type} {I : α → Prop} {S : α → TS} {s : TS} (x : α) (hI : I x) (ht : ∀ p ∈ (S x).t, getT s.t p.1 = p.2) (hh : ∀ p ∈ (S x).h, getH s.h p.1 = some p.2) : SLx s (atS I S) := SLx.fin (S x) ⟨x, hI, rfl⟩ ht hh
/-- A drawn region, and from there on. -/
theorem drawT_cut {α : Type} {s : TS} {K : TS → Prop} (I : α → Prop) (S : α → TS) (h1 : drawT P ops s fun s' => SLx s' (atS I S)) (h2 : ∀ x, I x → K (S x)) : drawT P ops s K := by
  intro nt hdst e E w a H hT hn t
  refine wpOps_mono (fun ex a' w' hh => ?_) _ _ _ (h1 nt hdst e E w a H hT hn t)
  obtain ⟨g1, s2, E2, k1, k2, k3, k4, k5, k6⟩ := hh
  obtain ⟨s3, E3, ⟨x, hx, rfl⟩, m2, m3, m4⟩ := k1 e E2 w' a'.tmps k3 k4
  exact ⟨g1, S x, E3, h2 x hx, k2.trans m2, m3, m4, k5, k6⟩

section
variable {tab : List (Nat × List Nat)} {fin : List (Nat × TV) → Heap → Prop} {t : List (Nat × TV)} {p : Nat × Nat × Blk} {h : Heap} {i j : Nat} {a b : Pl} {pre : List Nat} {K : List (Nat × TV) → Heap → Prop}
@[simp] theorem runP_nil : runP P ops tab fin .nil pre t h = fin t h := rfl
@[simp] theorem runP_op0 : runP P ops tab fin (.op i a) pre t [] = stepP P ops tab i pre t [] fun t' h' => runP P ops tab fin a (i :: pre) t' h' := rfl
@[simp] theorem runP_op1 : runP P ops tab fin (.op i a) pre t (p :: h) = stepP P ops tab i pre t (p :: h) fun t' h' => runP P ops tab fin a (i :: pre) t' h' := rfl
@[simp] theorem runP_alt0 : runP P ops tab fin (.alt i a j b) pre t [] = ((stepP P ops tab i pre t [] fun t' h' => runP P ops tab fin a (i :: pre) t' h') ∧ (stepP P ops tab j pre t [] fun t' h' => runP P ops tab fin b (j :: pre) t' h')) := rfl
@[simp] theorem runP_alt1 : runP P ops tab fin (.alt i a j b) pre t (p :: h) = ((stepP P ops tab i pre t (p :: h) fun t' h' => runP P ops tab fin a (i :: pre) t' h') ∧ (stepP P ops tab j pre t (p :: h) fun t' h' => runP P ops tab fin b (j :: pre) t' h')) := rfl
@[simp] theorem runP_alt30 {k : Nat} {c : Pl} : runP P ops tab fin (.alt3 i a j b k c) pre t [] = ((stepP P ops tab i pre t [] fun t' h' => runP P ops tab fin a (i :: pre) t' h') ∧ (stepP P ops tab j pre t [] fun t' h' => runP P ops tab fin b (j :: pre) t' h') ∧ (stepP P ops tab k pre t [] fun t' h' => runP P ops tab fin c (k :: pre) t' h')) := rfl
@[simp] theorem runP_alt31 {k : Nat} {c : Pl} : runP P ops tab fin (.alt3 i a j b k c) pre t (p :: h) = ((stepP P ops tab i pre t (p :: h) fun t' h' => runP P ops tab fin a (i :: pre) t' h') ∧ (stepP P ops tab j pre t (p :: h) fun t' h' => runP P ops tab fin b (j :: pre) t' h') ∧ (stepP P ops tab k pre t (p :: h) fun t' h' => runP P ops tab fin c (k :: pre) t' h')) := rfl
@[simp] theorem stepP_0 : stepP P ops tab i pre t [] K = (match ops[i]? with
  | none => False
  | some o => if isEff o.op = true then effG P ops o t [] fun r h' => stabL P ops h' (lk tab i) (dl o.dst r t) pre ∧ K (dl o.dst r t) h'
      else chStep P ops (fun _ : Unit => []) () o (fun _ => True) t fun t' _ => K t' []) := rfl
@[simp] theorem stepP_1 : stepP P ops tab i pre t (p :: h) K = (match ops[i]? with
  | none => False
  | some o => if isEff o.op = true then effG P ops o t (p :: h) fun r h' => stabL P ops h' (lk tab i) (dl o.dst r t) pre ∧ K (dl o.dst r t) h'
      else chStep P ops (fun _ : Unit => p :: h) () o (fun _ => True) t fun t' _ => K t' (p :: h)) := rfl
end
end
/-- A cell known less. -/
theorem SatH.wk {e : Ent} {E : Env} {w : World} {h : Heap} (H : SatH e E h w) (i j : Nat) {ver : Nat} {B : Blk} {x y : TV} (hxy : ∀ v, RV E x v → RV E y v) (hi : getH h i = some (ver, B)) (hj : B.cells[j]? = some x) :
    SatH e E (setH h i (ver, ⟨B.k, B.cells.set j y⟩)) w := by
  have hne : B.cells ≠ [] := fun hh => by rw [hh] at hj; simp at hj
  refine ⟨H.imm, fun b ver' B' hx => ?_, fun b hx => ?_, H.vers, H.ownd, H.apart, H.gr⟩
  · rw [getH_setH] at hx
    by_cases hxi : b = i
    · subst hxi
      rw [if_pos rfl] at hx
      cases hx
      obtain ⟨R, hR, hB⟩ := H.live b ver B hi
      refine ⟨R, hR, ?_⟩
      refine BlkRel.conv (B := B) rfl (by simp) (fun f o b5 => ?_) hB
      · refine RVl.of fun y z hz => ?_
        rw [List.getElem?_set] at hz
        split at hz
        · rename_i hy
          subst hy
          obtain ⟨v, v1, v2⟩ := b5.get _ _ hj
          split at hz
          · cases hz; exact ⟨_, v1, hxy _ v2⟩
          · cases hz
        · exact b5.get _ _ hz
    · rw [if_neg hxi] at hx
      exact H.live b ver' B' hx
  · rw [getH_setH] at hx
    by_cases hxi : b = i
    · rw [if_pos hxi] at hx; cases hx
    · rw [if_neg hxi] at hx; exact H.dead b hx
theorem RV_nilIsl {E : Env} (v : Value) (hv : RV E (.v (.slice none 0 0)) v) : RV E (.isl [] 0) v := by
  simp only [RV] at hv ⊢
  exact .inl ⟨trivial, trivial, hv⟩
/-- A cell that holds the nil slice: a row without cells. -/
theorem SLx.nilIsl {s : TS} {S : TS → Prop} (i j : Nat) {ver : Nat} {B : Blk} (hi : getH s.h i = some (ver, B)) (hj : B.cells[j]? = some (.v (.slice none 0 0)))
    (n : SLx ⟨s.t, setH s.h i (ver, ⟨B.k, B.cells.set j (.isl [] 0)⟩)⟩ S) : SLx s S := fun e E w tmps H hT =>
  n e E w tmps (H.wk i j (fun v hv => RV_nilIsl v hv) hi hj) hT
end Go.Proofs.YtnkdkajllmopaaaGreat.TL

namespace Go.Proofs.YtnkdkajllmopaaaGreat.TL
open Go
set_option linter.unusedVariables false
set_option linter.unusedSimpArgs false

/- A state whose heap isn't written out stands as it is: so simp does not walk code behind a call whose answer isn't known yet. -/
section
variable {P : Program} {ops : Array Oper} {keep : List Nat} {t : List (Nat × TV)} {p : Nat × Nat × Blk} {h : Heap} {o : Oper} {l : List Oper} {K : TS → Prop} {Q : TX → TS → Prop} {a b : Code} {i : Nat} {d : Bool} {x : Operand} {ops : Array Oper}
@[simp] theorem opsT_nil {s : TS} : opsT P ops [] s K = K s := rfl
@[simp] theorem opsT_cons0 : opsT P ops (o :: l) ⟨t, []⟩ K = stepT P ops o ⟨t, []⟩ fun s' => opsT P ops l s' K := rfl
@[simp] theorem opsT_cons1 : opsT P ops (o :: l) ⟨t, p :: h⟩ K = stepT P ops o ⟨t, p :: h⟩ fun s' => opsT P ops l s' K := rfl
@[simp] theorem quietT_nil {s : TS} {K : TS → Prop} : quietT P ops [] s K = K s := rfl
@[simp] theorem quietT_cons0 {K : TS → Prop} : quietT P ops (o :: l) ⟨t, []⟩ K = qstepT P ops o ⟨t, []⟩ fun v h => quietT P ops l ⟨(o.dst.getD 0, v) :: t, h⟩ K := rfl
@[simp] theorem quietT_cons1 {K : TS → Prop} : quietT P ops (o :: l) ⟨t, p :: h⟩ K = qstepT P ops o ⟨t, p :: h⟩ fun v h => quietT P ops l ⟨(o.dst.getD 0, v) :: t, h⟩ K := rfl
@[simp] theorem chT_nil {X : Type} {g : X → Heap} {x0 : X} {J : X → Prop} {K : List (Nat × TV) → (X → Prop) → Prop} : chT P ops g x0 [] J t K = K t J := rfl
@[simp] theorem chT_cons0 {X : Type} {g : X → Heap} {x0 : X} {J : X → Prop} {K : List (Nat × TV) → (X → Prop) → Prop} : chT P ops g x0 (o :: l) J [] K = chStep P ops g x0 o J [] fun t' J' => chT P ops g x0 l J' t' K := rfl
@[simp] theorem chT_cons1 {X : Type} {g : X → Heap} {x0 : X} {J : X → Prop} {q : Nat × TV} {K : List (Nat × TV) → (X → Prop) → Prop} : chT P ops g x0 (o :: l) J (q :: t) K = chStep P ops g x0 o J (q :: t) fun t' J' => chT P ops g x0 l J' t' K := rfl
@[simp] theorem lastT0 {K : TS → Prop} : lastT P ops K ⟨t, []⟩ = match ops[ops.size - 1]? with | some o => stepT P ops o ⟨t, []⟩ K | none => False := rfl
@[simp] theorem lastT1 {K : TS → Prop} : lastT P ops K ⟨t, p :: h⟩ = match ops[ops.size - 1]? with | some o => stepT P ops o ⟨t, p :: h⟩ K | none => False := rfl
@[simp] theorem wpT_skip {s : TS} : wpT P keep .skip Q s = Q .normal s := rfl
@[simp] theorem wpT_exit {s : TS} : wpT P keep (.exit i) Q s = Q (.exit i) s := rfl
@[simp] theorem wpT_ret {s : TS} : wpT P keep .ret Q s = Q .ret s := rfl
@[simp] theorem wpT_region0 : wpT P keep (.region i ops false) Q ⟨t, []⟩ = opsT P ops ops.toList ⟨t, []⟩ fun s' => Q .normal (keepT keep s') := rfl
@[simp] theorem wpT_region1 : wpT P keep (.region i ops false) Q ⟨t, p :: h⟩ = opsT P ops ops.toList ⟨t, p :: h⟩ fun s' => Q .normal (keepT keep s') := rfl
@[simp] theorem wpT_draw0 : wpT P keep (.region i ops true) Q ⟨t, []⟩ = drawT P ops ⟨t, []⟩ fun s' => Q .normal (keepT keep s') := rfl
@[simp] theorem wpT_draw1 : wpT P keep (.region i ops true) Q ⟨t, p :: h⟩ = drawT P ops ⟨t, p :: h⟩ fun s' => Q .normal (keepT keep s') := rfl
@[simp] theorem wpT_seq0 : wpT P keep (.seq a b) Q ⟨t, []⟩ = wpT P keep a (thenT (wpT P keep b Q) Q) ⟨t, []⟩ := rfl
@[simp] theorem wpT_seq1 : wpT P keep (.seq a b) Q ⟨t, p :: h⟩ = wpT P keep a (thenT (wpT P keep b Q) Q) ⟨t, p :: h⟩ := rfl
@[simp] theorem wpT_cond0 : wpT P keep (.cond x a b) Q ⟨t, []⟩ = condT ((⟨t, []⟩ : TS).ev x) (wpT P keep a Q ⟨t, []⟩) (wpT P keep b Q ⟨t, []⟩) := rfl
@[simp] theorem wpT_cond1 : wpT P keep (.cond x a b) Q ⟨t, p :: h⟩ = condT ((⟨t, p :: h⟩ : TS).ev x) (wpT P keep a Q ⟨t, p :: h⟩) (wpT P keep b Q ⟨t, p :: h⟩) := rfl
@[simp] theorem wpT_block0 : wpT P keep (.block i a) Q ⟨t, []⟩ = wpT P keep a (inBlk i Q) ⟨t, []⟩ := rfl
@[simp] theorem wpT_block1 : wpT P keep (.block i a) Q ⟨t, p :: h⟩ = wpT P keep a (inBlk i Q) ⟨t, p :: h⟩ := rfl
@[simp] theorem wpT_loop0 : wpT P keep (.loop a) Q ⟨t, []⟩ = loopT (wpT P keep a) Q ⟨t, []⟩ := rfl
@[simp] theorem wpT_loop1 : wpT P keep (.loop a) Q ⟨t, p :: h⟩ = loopT (wpT P keep a) Q ⟨t, p :: h⟩ := rfl
end

attribute [simp] thenT inBlk condT stepT qstepT callsT chStep guardsOf qopB frzSlice freshB isEff slNil nilT qop effT TS.ev TS.evg TS.to strip getT getH setH delH argsT qnil qfieldAddr qfield qextract qload qread qbin qbinT qeq eqAt eqS qpick qun qidx qslice qslice3 qlen qmm qindex qbuild qconv bnd keepT retT resL resOne oneT restH clearT tailT Value.oneCell' storeT cellsOf cellV over fillT boxT allocT buildSliceT appT srcT funT invT bothNil isC nilsT qassert mapT updT delT qlook qlenM isMapV mkT copyT s2bB s2bT
  renT renL guardOf allB impL optL stripL stripS mapId applyH renB okB okT okL okTau backId Clo CloL List.zipIdx no famSteps after doneAt Region.binds getT_onD all_onD onD frzT frzL mvT mvL mvH dl chA freeOp lk effG

theorem callT_eq {P : Program} {f : Nat} {args0 args : List TV} {s : TS} {h0 H1 : Heap} {R : TV} {K : TV → Heap → Prop} (τ : List (Nat × Nat)) (hc : callT P f args0 ⟨[], h0⟩ (fun r h => r = R ∧ h = H1))
    (h : okTau τ = true ∧ args = renL (mapId τ) args0 ∧ okL (fun b => (mapId τ b).isSome = true) args0 ∧ (∀ p ∈ h0, okB (fun b => (mapId τ b).isSome = true) p.2.2 ∧ ∃ j, mapId τ p.1 = some j ∧ getH s.h j = some (p.2.1, renB (mapId τ) p.2.2)) ∧
      okT (fun _ => True) R ∧ (∀ p ∈ H1, (mapId τ p.1).isSome = true ∧ okB (fun _ => True) p.2.2) ∧ K (renT (mapId τ) R) (applyH (mapId τ) H1 τ s.h)) : callT P f args s K := by
  obtain ⟨h1, h2, h3, h4, h5, h6, h7⟩ := h
  exact callT_use τ hc h1 h2 h3 h4 fun r h ⟨e1, e2⟩ => by subst e1 e2; exact ⟨h5, h6, h7⟩

theorem callT_ex {P : Program} {f : Nat} {args0 args : List TV} {s : TS} {h0 : Heap} {H1 : Nat → Heap} {R : Nat → TV} {K : TV → Heap → Prop} (τ : List (Nat × Nat)) (hc : callT P f args0 ⟨[], h0⟩ (fun r h => ∃ u, r = R u ∧ h = H1 u))
    (h : okTau τ = true ∧ args = renL (mapId τ) args0 ∧ okL (fun b => (mapId τ b).isSome = true) args0 ∧ (∀ p ∈ h0, okB (fun b => (mapId τ b).isSome = true) p.2.2 ∧ ∃ j, mapId τ p.1 = some j ∧ getH s.h j = some (p.2.1, renB (mapId τ) p.2.2)) ∧
      ∀ u, okT (fun _ => True) (R u) ∧ (∀ p ∈ H1 u, (mapId τ p.1).isSome = true ∧ okB (fun _ => True) p.2.2) ∧ K (renT (mapId τ) (R u)) (applyH (mapId τ) (H1 u) τ s.h)) : callT P f args s K := by
  obtain ⟨h1, h2, h3, h4, h5⟩ := h
  exact callT_use τ hc h1 h2 h3 h4 fun r h ⟨u, e1, e2⟩ => by subst e1 e2; exact h5 u

theorem fn_of {P : Program} {f : Nat} {args : List TV} {s : TS} {K : TV → Heap → Prop} (h : callT P f args s K) : ∃ fn, P.funcs[f]? = some fn ∧ (fn.name == "runtime.NumGoroutine") = false ∧ fn.body.isNone = false := h.1

@[simp] theorem CloL_map_bv (l : List UInt8) : CloL (l.map bv) := CloL_iff.2 fun x hx => by
  obtain ⟨b, _, rfl⟩ := List.mem_map.1 hx
  simp [bv]
@[simp] theorem AllC_map_bv (l : List UInt8) : AllC (l.map bv) := fun x hx => by
  obtain ⟨b, _, rfl⟩ := List.mem_map.1 hx
  simp [bv]
@[simp] theorem CloL_append (l l' : List TV) : CloL (l ++ l') ↔ CloL l ∧ CloL l' := by
  simp only [CloL_iff, List.mem_append]
  exact ⟨fun h => ⟨fun x hx => h x (.inl hx), fun x hx => h x (.inr hx)⟩, fun h x hx => hx.elim (h.1 x) (h.2 x)⟩
@[simp] theorem AllC_append (l l' : List TV) : AllC (l ++ l') ↔ AllC l ∧ AllC l' := by
  unfold AllC
  simp only [List.mem_append]
  exact ⟨fun h => ⟨fun x hx => h x (.inl hx), fun x hx => h x (.inr hx)⟩, fun h x hx => hx.elim (h.1 x) (h.2 x)⟩
@[simp] theorem AllC_nil : AllC [] := fun x hx => by cases hx
@[simp] theorem AllC_cons (x : TV) (l : List TV) : AllC (x :: l) ↔ cellV x = true ∧ AllC l := by simp [AllC]
@[simp] theorem AllB_map_bv (l : List UInt8) : AllB (l.map bv) := ⟨l, rfl⟩
@[simp] theorem unbv_comp_bv : unbv ∘ bv = id := funext fun b => unbv_bv b
attribute [simp] guardE_true guardE_false iteTV_true iteTV_false iteTV_bool
attribute [simp] map_unbv unbv_bv
end Go.Proofs.YtnkdkajllmopaaaGreat.TL

namespace Go.Proofs.YtnkdkajllmopaaaGreat.TL
open Go
set_option linter.unusedVariables false
set_option linter.unusedSimpArgs false
variable {e : Ent} {E : Env} {w : World}

def frzH (b ver : Nat) (B : Blk) : Heap → Heap
  | [] => []
  | (n, v, C) :: l => (n, v, ⟨C.k, frzL b ver B C.cells⟩) :: frzH b ver B l
attribute [simp] frzH
theorem getH_frzH (b ver : Nat) (B : Blk) : ∀ (h : Heap) (n : Nat), getH (frzH b ver B h) n = (getH h n).map fun p => (p.1, ⟨p.2.k, frzL b ver B p.2.cells⟩)
  | [], _ => rfl
  | (m, v, C) :: l, n => by
    simp only [frzH, getH]
    split
    · rfl
    · exact getH_frzH b ver B l n
theorem frzL_length (b ver : Nat) (B : Blk) : ∀ l : List TV, (frzL b ver B l).length = l.length
  | [] => rfl
  | x :: l => by simp only [frzL, List.length_cons, frzL_length b ver B l]
theorem SatH.frzH {h : Heap} (H : SatH e E h w) {b ver : Nat} {B : Blk} (hb : getH h b = some (ver, B)) : SatH e (E.frz w b) (frzH b ver B (delH h b)) w := by
  have H1 := H.frz b
  refine ⟨H1.imm, fun x v C hx => ?_, fun x hx => ?_, H1.vers, H1.ownd, H1.apart, H1.gr⟩
  · rw [getH_frzH, getH_delH] at hx
    split at hx
    · cases hx
    · rename_i hxb
      cases hg : getH h x with
      | none => rw [hg] at hx; cases hx
      | some p =>
        obtain ⟨v0, C0⟩ := p
        rw [hg] at hx
        cases hx
        obtain ⟨R, h1, h2⟩ := H.live x v0 C0 hg
        refine ⟨R, by simp only [Env.frz, if_neg hxb]; exact h1, ?_⟩
        exact BlkRel.conv (B := C0) rfl (frzL_length b ver B C0.cells) (fun f o q5 => (RVl_frz H hb C0.cells _ _ q5).2) h2
  · rw [getH_frzH, Option.map_eq_none_iff] at hx
    exact H1.dead x hx
theorem VLx.frzH {r : TV} {h : Heap} {S : TV → Heap → Prop} (b : Nat) {ver : Nat} {B : Blk} (hb : getH h b = some (ver, B)) (k : VLx (frzT b ver B r) (frzH b ver B (delH h b)) S) : VLx r h S := fun e E w v H hr =>
  let ⟨r', h'', E', a, l, c, d⟩ := k e _ w v (H.frzH hb) (RV_frz H hb r v hr)
  ⟨r', h'', E', a, (H.le_frz b).trans l, c, d⟩
theorem SLx.frzH {s : TS} {S : TS → Prop} (b : Nat) {ver : Nat} {B : Blk} (hb : getH s.h b = some (ver, B)) (k : SLx ⟨s.t.map fun p => (p.1, frzT b ver B p.2), frzH b ver B (delH s.h b)⟩ S) : SLx s S := fun e E w tmps H hT => by
  refine SLx.step k (H.le_frz b) (H.frzH hb) (fun n => ?_)
  have : getT (s.t.map fun p => (p.1, frzT b ver B p.2)) n = frzT b ver B (getT s.t n) := by
    induction s.t with
    | nil => simp [getT, frzT]
    | cons p l ih =>
      obtain ⟨m, x⟩ := p
      simp only [List.map_cons, getT]
      split
      · rfl
      · exact ih
  rw [this]
  exact RV_frz H hb _ _ (hT n)
theorem CLx.frzH {args : List TV} {h : Heap} {S : List TV → Heap → Prop} (b : Nat) {ver : Nat} {B : Blk} (hb : getH h b = some (ver, B)) (k : CLx (frzL b ver B args) (frzH b ver B (delH h b)) S) : CLx args h S := fun e E w f H hv => by
  obtain ⟨k1, k2⟩ := RVl_frz H hb args f 0 hv
  obtain ⟨args', h', E', a, hl, l, c, d⟩ := k e _ w f (H.frzH hb) k2
  exact ⟨args', h', E', a, by rw [hl, k1], (H.le_frz b).trans l, c, d⟩
end Go.Proofs.YtnkdkajllmopaaaGreat.TL

namespace Go.Proofs.YtnkdkajllmopaaaGreat.TL
open Go
set_option linter.unusedVariables false
set_option linter.unusedSimpArgs false

mutual
def nz : TV → TV
  | .v (.slice none 0 0) => .isl [] 0
  | .agg l => .agg (nzL l)
  | .tup l => .tup (nzL l)
  | x => x
def nzL : List TV → List TV
  | [] => []
  | x :: l => nz x :: nzL l
end
attribute [simp] nz nzL
mutual
theorem RV_nz {E : Env} : ∀ (x : TV) (y : Value), RV E x y → RV E (nz x) y
  | .agg l, y, h => by
    simp only [nz, RV] at h ⊢
    obtain ⟨zs, h1, h2, h3⟩ := h
    obtain ⟨k1, k2⟩ := RVl_nz l _ _ h3
    exact ⟨zs, h1, by rw [k1]; exact h2, k2⟩
  | .tup l, y, h => by
    simp only [nz, RV] at h ⊢
    obtain ⟨zs, h1, h2, h3⟩ := h
    obtain ⟨k1, k2⟩ := RVl_nz l _ _ h3
    exact ⟨zs, h1, by rw [k1]; exact h2, k2⟩
  | .v x, y, h => by
    unfold nz
    split
    · rename_i heq
      cases heq
      simp only [RV] at h ⊢
      exact .inl ⟨trivial, trivial, h⟩
    · rename_i heq; cases heq
    · rename_i heq; cases heq
    · exact h
  | .at _ _ _, y, h => by simp only [nz]; exact h
  | .sl _ _ _ _, y, h => by simp only [nz]; exact h
  | .mp _ _, y, h => by simp only [nz]; exact h
  | .isl _ _, y, h => by simp only [nz]; exact h
  | .iat _, y, h => by simp only [nz]; exact h
  | .ifc _ _, y, h => by simp only [nz]; exact h
  | .fn _ _, y, h => by simp only [nz]; exact h
  | .opt _ _, y, h => by simp only [nz]; exact h
  | .any, y, h => by simp only [nz]; exact h
theorem RVl_nz {E : Env} : ∀ (l : List TV) (f : Nat → Option Value) (o : Nat), RVl E l f o → (nzL l).length = l.length ∧ RVl E (nzL l) f o
  | [], _, _, _ => by simp only [nzL, RVl, and_self]
  | x :: l, f, o, h => by
    simp only [nzL, RVl] at h ⊢
    obtain ⟨⟨v, h1, h2⟩, h3⟩ := h
    obtain ⟨k1, k2⟩ := RVl_nz l f (o + 1) h3
    exact ⟨by simp [k1], ⟨v, h1, RV_nz x v h2⟩, k2⟩
end
def nzH : Heap → Heap
  | [] => []
  | (n, v, C) :: l => (n, v, ⟨C.k, nzL C.cells⟩) :: nzH l
attribute [simp] nzH
theorem getH_nzH : ∀ (h : Heap) (n : Nat), getH (nzH h) n = (getH h n).map fun p => (p.1, ⟨p.2.k, nzL p.2.cells⟩)
  | [], _ => rfl
  | (m, v, C) :: l, n => by
    simp only [nzH, getH]
    split
    · rfl
    · exact getH_nzH l n
theorem nzL_length : ∀ l : List TV, (nzL l).length = l.length
  | [] => rfl
  | x :: l => by simp only [nzL, List.length_cons, nzL_length l]
theorem SatH.nzH {e : Ent} {E : Env} {h : Heap} {w : World} (H : SatH e E h w) : SatH e E (nzH h) w := by
  refine ⟨H.imm, fun x v C hx => ?_, fun x hx => ?_, H.vers, H.ownd, H.apart, H.gr⟩
  · rw [getH_nzH] at hx
    cases hg : getH h x with
    | none => rw [hg] at hx; cases hx
    | some p =>
      obtain ⟨v0, C0⟩ := p
      rw [hg] at hx
      cases hx
      obtain ⟨R, h1, h2⟩ := H.live x v0 C0 hg
      refine ⟨R, h1, ?_⟩
      exact BlkRel.conv (B := C0) rfl (nzL_length C0.cells) (fun f o q5 => (RVl_nz C0.cells _ _ q5).2) h2
  · rw [getH_nzH, Option.map_eq_none_iff] at hx
    exact H.dead x hx
theorem VLx.nz {r : TV} {h : Heap} {S : TV → Heap → Prop} (k : VLx (nz r) (nzH h) S) : VLx r h S := fun e E w v H hr => k e E w v H.nzH (RV_nz r v hr)
theorem CLx.nz {args : List TV} {h : Heap} {S : List TV → Heap → Prop} (k : CLx (nzL args) (nzH h) S) : CLx args h S := fun e E w f H hv => by
  obtain ⟨k1, k2⟩ := RVl_nz args f 0 hv
  obtain ⟨args', h', E', a, hl, l, c, d⟩ := k e E w f H.nzH k2
  exact ⟨args', h', E', a, by rw [hl, k1], l, c, d⟩
theorem SLx.nz {s : TS} {S : TS → Prop} (k : SLx ⟨s.t.map fun p => (p.1, nz p.2), nzH s.h⟩ S) : SLx s S := fun e E w tmps H hT => by
  refine SLx.step k (Env.Le.refl E) H.nzH (fun n => ?_)
  have : getT (s.t.map fun p => (p.1, TL.nz p.2)) n = TL.nz (getT s.t n) := by
    induction s.t with
    | nil => rfl
    | cons p l ih =>
      obtain ⟨m, x⟩ := p
      simp only [List.map_cons, getT]
      split
      · rfl
      · exact ih
  rw [this]
  exact RV_nz _ _ (hT n)
end Go.Proofs.YtnkdkajllmopaaaGreat.TL

/- Maps as lists of keys with what belongs to them. -/
namespace Go.Proofs.YtnkdkajllmopaaaGreat.TL
open Go
set_option linter.unusedVariables false
set_option linter.unusedSimpArgs false

section
variable {α : Type}
def mapC (q : IntKind) (g : α → TV) (M : List (Int × α)) : List TV := M.map fun p => entT q p.1 (g p.2)
def lkp (a : Int) : List (Int × α) → Option α
  | [] => none
  | p :: l => if p.1 = a then some p.2 else lkp a l
def ins (a : Int) (v : α) : List (Int × α) → List (Int × α)
  | [] => [(a, v)]
  | p :: l => if p.1 = a then (a, v) :: l else p :: ins a v l
def rmv (a : Int) : List (Int × α) → List (Int × α)
  | [] => []
  | p :: l => if p.1 = a then l else p :: rmv a l
variable {q : IntKind} {g : α → TV}
@[simp] theorem length_mapC (M : List (Int × α)) : (mapC q g M).length = M.length := by simp [mapC]
@[simp] theorem keysOk_mapC (M : List (Int × α)) : keysOk q (mapC q g M) := fun x hx => by
  obtain ⟨p, _, rfl⟩ := List.mem_map.1 hx
  exact ⟨_, _, rfl⟩
@[simp] theorem keysOk_nil : keysOk q [] := fun x hx => by cases hx
@[simp] theorem mget_mapC (a : Int) : ∀ M : List (Int × α), mget q a (mapC q g M) = (lkp a M).map g
  | [] => rfl
  | p :: l => by
    show mget q a (entT q p.1 (g p.2) :: mapC q g l) = _
    simp only [mget, keyT_ent, lkp, Option.some.injEq]
    split
    · rfl
    · exact mget_mapC a l
theorem mput_mapC (a : Int) {x : TV} (v : α) (hx : x = g v) : ∀ M : List (Int × α), mput q a x (mapC q g M) = mapC q g (ins a v M)
  | [] => by subst hx; rfl
  | p :: l => by
    show mput q a x (entT q p.1 (g p.2) :: mapC q g l) = _
    simp only [mput, keyT_ent, ins, Option.some.injEq]
    split
    · subst hx; rfl
    · show _ = entT q p.1 (g p.2) :: mapC q g (ins a v l)
      rw [mput_mapC a v hx l]
theorem mdel_mapC (a : Int) : ∀ M : List (Int × α), mdel q a (mapC q g M) = mapC q g (rmv a M)
  | [] => rfl
  | p :: l => by
    show mdel q a (entT q p.1 (g p.2) :: mapC q g l) = _
    simp only [mdel, keyT_ent, rmv, Option.some.injEq]
    split
    · rfl
    · show _ = entT q p.1 (g p.2) :: mapC q g (rmv a l)
      rw [mdel_mapC a l]
theorem renL_mapC {τ : Nat → Option Nat} (h : ∀ v, renT τ (g v) = g v) (M : List (Int × α)) : renL τ (mapC q g M) = mapC q g M := by
  induction M with
  | nil => rfl
  | cons p l ih =>
    show renT τ (entT q p.1 (g p.2)) :: renL τ (mapC q g l) = _
    rw [ih]
    simp only [entT, renT, renL, h]
    rfl
theorem okL_mapC {m : Nat → Prop} (h : ∀ v, okT m (g v)) (M : List (Int × α)) : okL m (mapC q g M) := by
  induction M with
  | nil => trivial
  | cons p l ih =>
    show okT m (entT q p.1 (g p.2)) ∧ okL m (mapC q g l)
    refine ⟨?_, ih⟩
    simp only [entT, okT, okL]
    exact ⟨trivial, h _, trivial⟩
theorem mvL_mapC {b v b' v' : Nat} (h : ∀ x, mvT b v b' v' (g x) = g x) (M : List (Int × α)) : mvL b v b' v' (mapC q g M) = mapC q g M := by
  induction M with
  | nil => rfl
  | cons p l ih =>
    show mvT b v b' v' (entT q p.1 (g p.2)) :: mvL b v b' v' (mapC q g l) = _
    rw [ih]
    simp only [entT, mvT, mvL, h]
    rfl
theorem lkp_ins (a b : Int) (v : α) : ∀ M : List (Int × α), lkp b (ins a v M) = if a = b then some v else lkp b M
  | [] => by simp [ins, lkp]
  | p :: l => by
    simp only [ins]
    by_cases h : p.1 = a
    · rw [if_pos h]
      simp only [lkp]
      by_cases hb : a = b
      · rw [if_pos hb, if_pos hb]
      · rw [if_neg hb, if_neg hb, if_neg (fun hh => hb (h.symm.trans hh))]
    · rw [if_neg h]
      simp only [lkp, lkp_ins a b v l]
      by_cases hb : a = b
      · subst hb; rw [if_neg h, if_pos rfl, if_pos rfl]
      · rw [if_neg hb, if_neg hb]
theorem length_ins (a : Int) (v : α) : ∀ M : List (Int × α), (ins a v M).length = if (lkp a M).isSome then M.length else M.length + 1
  | [] => rfl
  | p :: l => by
    by_cases h : p.1 = a
    · simp [ins, lkp, h]
    · simp only [ins, lkp, if_neg h, List.length_cons, length_ins a v l]
      cases hh : (lkp a l).isSome <;> simp
theorem ins_new {a : Int} {v : α} : ∀ {M : List (Int × α)}, lkp a M = none → ins a v M = M ++ [(a, v)]
  | [], _ => rfl
  | p :: l, h => by
    simp only [lkp] at h
    split at h
    · cases h
    · rename_i hp
      simp only [ins, if_neg hp, List.cons_append, ins_new h]
theorem lkp_mem {a : Int} {v : α} : ∀ {M : List (Int × α)}, lkp a M = some v → (a, v) ∈ M
  | p :: l, h => by
    simp only [lkp] at h
    split at h
    · rename_i hp; cases h; subst hp; exact List.mem_cons_self
    · exact List.mem_cons_of_mem _ (lkp_mem h)
theorem lkp_none {a : Int} : ∀ {M : List (Int × α)}, lkp a M = none ↔ ∀ p ∈ M, p.1 ≠ a
  | [] => by simp [lkp]
  | p :: l => by
    simp only [lkp, List.forall_mem_cons]
    by_cases h : p.1 = a
    · simp [h]
    · rw [if_neg h, lkp_none]; simp [h]
end
end Go.Proofs.YtnkdkajllmopaaaGreat.TL

namespace Go.Proofs.YtnkdkajllmopaaaGreat.TL
open Go
set_option linter.unusedVariables false
set_option linter.unusedSimpArgs false

/-- What may be handed over: a row's cells name no own block, or they are the same under the other numbers. -/
def okB2 (τ : Nat → Option Nat) (m : Nat → Prop) (B : Blk) : Prop := if B.k = 0 then okL m B.cells else CloL B.cells ∨ (okL m B.cells ∧ renL τ B.cells = B.cells)
attribute [simp] okB2

/-- A contract used, where rows of addresses may bear the same numbers in both. -/
theorem callT_usei {P : Program} {f : Nat} {args0 args : List TV} {s : TS} {h0 : Heap} {Q0 K : TV → Heap → Prop} (τ : List (Nat × Nat)) (hc : callT P f args0 ⟨[], h0⟩ Q0) (hτ : okTau τ = true)
    (hargs : args = renL (mapId τ) args0) (hok : okL (fun b => (mapId τ b).isSome = true) args0)
    (hh : ∀ p ∈ h0, okB2 (mapId τ) (fun b => (mapId τ b).isSome = true) p.2.2 ∧ ∃ j, mapId τ p.1 = some j ∧ getH s.h j = some (p.2.1, renB (mapId τ) p.2.2))
    (hK : ∀ r h1, Q0 r h1 → okT (fun _ => True) r ∧ (∀ p ∈ h1, (mapId τ p.1).isSome = true ∧ okB2 (mapId τ) (fun _ => True) p.2.2) ∧ K (renT (mapId τ) r) (applyH (mapId τ) h1 τ s.h)) : callT P f args s K := by
  refine ⟨hc.1, fun e E w vs H hl hv => ?_⟩
  let E0 : Env := { I := E.I, ρ := fun i => if (getH h0 i).isSome then (mapId τ i).bind E.ρ else none, c := E.c }
  let e0 : Ent := { w0 := w, E0 := E0, O := fun r => ∃ i ver q, E0.ρ i = some (ver, some q) ∧ q.r = r, glo := H.glo }
  have hE0 : ∀ i y, E0.ρ i = some y → ∃ j, mapId τ i = some j ∧ E.ρ j = some y ∧ (getH h0 i).isSome = true := fun i y hy => by
    simp only [E0] at hy
    split at hy
    · rename_i hs
      obtain ⟨j, hj, hy⟩ := Option.bind_eq_some_iff.1 hy
      exact ⟨j, hj, hy, hs⟩
    · cases hy
  have unr : ∀ b j, mapId τ b = some j → ∀ ver R, E0.ρ b = some (ver, R) → E.ρ j = some (ver, R) := fun b j hb ver R hR => by
    obtain ⟨j', hj', h, _⟩ := hE0 b _ hR
    rw [hb] at hj'; cases hj'; exact h
  have H0 : SatH e0 E0 h0 w := by
    refine ⟨H.imm, fun i ver B hi => ?_, fun i hi => ?_, fun i ver R hi => ?_, fun i ver q hi => ?_, fun i i' ver ver' q q' hi hi' hr => ?_, ⟨Nat.le_refl _, fun _ _ _ => rfl, rfl, rfl, rfl, Env.Le.refl _, fun r o v hI => .inl ⟨v, hI⟩⟩⟩
    · obtain ⟨hb, j, hj, hjs⟩ := hh (i, ver, B) (getH_mem hi)
      obtain ⟨R, hR, hB⟩ := H.live j ver _ hjs
      refine ⟨R, by simp [E0, hi, hj, hR], ?_⟩
      refine hB.conv (by rw [renB_k]) ?_ ?_
      · by_cases hk : B.k = 0
        · simp only [renB, hk, if_true, renL_length]
        · simp only [renB, if_neg hk]
      · intro f o hf
        by_cases hk : B.k = 0
        · simp only [okB2, hk, if_true] at hb
          simp only [renB, hk, if_true] at hf
          exact (RVl_unren (E := E) (E' := E0) (fun _ _ _ x => x) (Nat.le_refl _) unr B.cells _ _ hb hf).2
        · simp only [okB2, if_neg hk] at hb
          simp only [renB, if_neg hk] at hf
          rcases hb with hb | ⟨hb, hq⟩
          · exact RVl_clo (E := E) (E' := E0) (fun _ _ _ x => x) B.cells _ _ _ hb (fun _ _ x => x) hf
          · rw [← hq] at hf
            exact (RVl_unren (E := E) (E' := E0) (fun _ _ _ x => x) (Nat.le_refl _) unr B.cells _ _ hb hf).2
    · simp [E0, hi]
    · obtain ⟨j, _, h, _⟩ := hE0 i _ hi; exact H.vers j ver R h
    · obtain ⟨j, _, h, _⟩ := hE0 i _ hi
      obtain ⟨h1, h2, _⟩ := H.ownd j ver q h
      exact ⟨h1, h2, .inl ⟨i, ver, q, hi, rfl⟩⟩
    · obtain ⟨j, hj, h, _⟩ := hE0 i _ hi
      obtain ⟨j', hj', h', _⟩ := hE0 i' _ hi'
      have := H.apart j j' ver ver' q q' h h' hr
      subst this
      have e1 := back_of_map hτ hj
      rw [back_of_map hτ hj'] at e1
      cases e1; rfl
  obtain ⟨hl0, hv0⟩ := RVl_unren (τ := mapId τ) (E := E) (E' := E0) (fun _ _ _ x => x) (Nat.le_refl _) unr args0 _ _ hok (hargs ▸ hv)
  refine (hc.2 e0 E0 w vs H0 (by rw [hl, hargs, hl0]) hv0).mono fun en w1 ⟨v, r, h1, E1, hen, hQ, l1, H1, hr⟩ => ?_
  obtain ⟨hokr, hokh, hKr⟩ := hK r h1 hQ
  let E2 : Env := { I := E1.I, ρ := fun j => match backId τ j with | some i => if (getH h1 i).isSome then E1.ρ i else none | none => E.ρ j, c := E1.c }
  have ren : ∀ b j, mapId τ b = some j → ∀ ver R, ver ≤ E1.c → E2.ρ j = some (ver, R) → E1.ρ b = some (ver, R) := fun b j hb ver R _ hR => by
    simp only [E2, back_of_map hτ hb] at hR
    split at hR
    · exact hR
    · cases hR
  have l2 : E.Le E2 := by
    refine ⟨l1.c, l1.I, fun j ver R hR hver => ?_⟩
    simp only [E2] at hR
    split at hR
    · rename_i i hi
      split at hR
      · have h := l1.ρ i ver R hR hver
        obtain ⟨j', hj', h2, _⟩ := hE0 i _ h
        rw [map_of_back hτ hi] at hj'
        cases hj'; exact h2
      · cases hR
    · exact hR
  have hcell : ∀ x ver q, E.ρ x = some (ver, some q) → backId τ x = none → w1.heap[q.r]? = w.heap[q.r]? := fun x ver q hx hb => by
    have hn : ¬ e0.O q.r := by
      rintro ⟨i, ver', q', hi, hq⟩
      obtain ⟨j, hj, h, _⟩ := hE0 i _ hi
      have := H.apart j x ver' ver q' q h hx hq
      subst this
      rw [back_of_map hτ hj] at hb
      cases hb
    exact H1.gr.frame q.r (H.ownd x ver q hx).1 hn
  refine ⟨v, _, _, E2, hen, hKr, l2, ?_, RV_ren (E := E1) (E' := E2) (fun _ _ _ x => x) (Nat.le_refl _) ren r v hokr hr⟩
  refine ⟨H1.imm, fun j ver B hj => ?_, fun j hj => ?_, fun j ver R hj => ?_, fun j ver q hj => ?_, fun j j' ver ver' q q' hj hj' hr => ?_, ?_⟩
  · rw [getH_applyH] at hj
    cases hb : backId τ j with
    | some i =>
      simp only [hb] at hj
      obtain ⟨⟨ver', B'⟩, hg, hg2⟩ := Option.map_eq_some_iff.1 hj
      cases hg2
      obtain ⟨_, hokB⟩ := hokh _ (getH_mem hg)
      obtain ⟨R, hR, hB⟩ := H1.live i ver' B' hg
      refine ⟨R, by simp [E2, hb, hg, hR], ?_⟩
      refine hB.conv (by rw [renB_k]) ?_ ?_
      · by_cases hk : B'.k = 0
        · simp only [renB, hk, if_true, renL_length]
        · simp only [renB, if_neg hk]
      · intro f o hf
        by_cases hk : B'.k = 0
        · simp only [okB2, hk, if_true] at hokB
          simp only [renB, hk, if_true]
          exact (RVl_ren (E := E1) (E' := E2) (fun _ _ _ x => x) (Nat.le_refl _) ren B'.cells _ _ hokB hf).2
        · simp only [okB2, if_neg hk] at hokB
          simp only [renB, if_neg hk]
          rcases hokB with hokB | ⟨hokB, hq⟩
          · exact RVl_clo (E := E1) (E' := E2) (fun _ _ _ x => x) B'.cells _ _ _ hokB (fun _ _ x => x) hf
          · have := (RVl_ren (E := E1) (E' := E2) (fun _ _ _ x => x) (Nat.le_refl _) ren B'.cells _ _ hokB hf).2
            rwa [hq] at this
    | none =>
      simp only [hb] at hj
      obtain ⟨R, hR, hB⟩ := H.live j ver B hj
      exact ⟨R, by simp [E2, hb, hR], hB.mono l2 fun q hq => hcell j ver q (hq ▸ hR) hb⟩
  · rw [getH_applyH] at hj
    simp only [E2]
    cases hb : backId τ j with
    | some i =>
      simp only [hb, Option.map_eq_none_iff] at hj
      simp [hj]
    | none =>
      simp only [hb] at hj
      exact H.dead j hj
  · simp only [E2] at hj
    split at hj
    · split at hj
      · exact H1.vers _ _ _ hj
      · cases hj
    · exact Nat.le_trans (H.vers _ _ _ hj) l1.c
  · simp only [E2] at hj
    split at hj
    · rename_i i hi
      split at hj
      · obtain ⟨k1, k2, k3⟩ := H1.ownd _ _ _ hj
        refine ⟨k1, k2, ?_⟩
        rcases k3 with ⟨i', ver', q', hi', hq⟩ | k3
        · obtain ⟨j', _, h, _⟩ := hE0 i' _ hi'
          rw [← hq]
          exact (H.ownd j' ver' q' h).2.2
        · exact .inr (Nat.le_trans H.gr.size k3)
      · cases hj
    · rename_i hb
      obtain ⟨k1, k2, k3⟩ := H.ownd _ _ _ hj
      refine ⟨Nat.lt_of_lt_of_le k1 H1.gr.size, fun o => ?_, k3⟩
      cases hI : E1.I q.r o with
      | none => rfl
      | some v' =>
        exfalso
        rcases H1.gr.newI q.r o v' hI with ⟨v'', h2⟩ | ⟨i', ver', q', hi', hq⟩ | h2
        · have := k2 o; simp only [e0, E0] at h2; rw [this] at h2; cases h2
        · obtain ⟨j', hj', h, _⟩ := hE0 i' _ hi'
          have := H.apart j' j ver' ver q' q h hj hq
          subst this
          rw [back_of_map hτ hj'] at hb
          cases hb
        · simp only [e0] at h2; omega
  · have key : ∀ j ver q j' ver' q', E2.ρ j = some (ver, some q) → E2.ρ j' = some (ver', some q') → q.r = q'.r → backId τ j = none → (backId τ j').isSome = true → False := fun j ver q j' ver' q' hj hj' hr hb hb' => by
      obtain ⟨i, hi⟩ := Option.isSome_iff_exists.1 hb'
      simp only [E2, hb] at hj
      simp only [E2, hi] at hj'
      split at hj'
      · obtain ⟨k1, k2, k3⟩ := H1.ownd _ _ _ hj'
        obtain ⟨m1, _, _⟩ := H.ownd _ _ _ hj
        rcases k3 with ⟨i', v', q'', hi', hq⟩ | k3
        · obtain ⟨j'', hj'', h, _⟩ := hE0 i' _ hi'
          have := H.apart j'' j v' ver q'' q h hj (by rw [hq, hr])
          subst this
          rw [back_of_map hτ hj''] at hb
          cases hb
        · simp only [e0] at k3; omega
      · cases hj'
    cases hb : backId τ j with
    | none =>
      cases hb' : backId τ j' with
      | none =>
        simp only [E2, hb] at hj
        simp only [E2, hb'] at hj'
        exact H.apart _ _ _ _ _ _ hj hj' hr
      | some i' => exact (key _ _ _ _ _ _ hj hj' hr hb (by simp [hb'])).elim
    | some i =>
      cases hb' : backId τ j' with
      | none => exact (key _ _ _ _ _ _ hj' hj hr.symm hb' (by simp [hb])).elim
      | some i' =>
        simp only [E2, hb] at hj
        simp only [E2, hb'] at hj'
        split at hj
        · split at hj'
          · have := H1.apart _ _ _ _ _ _ hj hj' hr
            subst this
            have e1 := map_of_back hτ hb
            rw [map_of_back hτ hb'] at e1
            cases e1; rfl
          · cases hj'
        · cases hj
  · refine ⟨Nat.le_trans H.gr.size H1.gr.size, fun r hr hO => ?_, H1.gr.os.trans H.gr.os, H1.gr.tape.trans H.gr.tape, H1.gr.output.trans H.gr.output, H.gr.le.trans l2, fun r o v' hI => ?_⟩
    · rw [H1.gr.frame r (Nat.lt_of_lt_of_le hr H.gr.size) (fun ⟨i', ver', q', hi', hq⟩ => ?_)]
      · exact H.gr.frame r hr hO
      · obtain ⟨j', _, h, _⟩ := hE0 i' _ hi'
        rcases (H.ownd j' ver' q' h).2.2 with k | k
        · exact hO (hq ▸ k)
        · omega
    · rcases H1.gr.newI r o v' hI with ⟨v'', h2⟩ | ⟨i', ver', q', hi', hq⟩ | h2
      · exact H.gr.newI r o v'' h2
      · obtain ⟨j', _, h, _⟩ := hE0 i' _ hi'
        rcases (H.ownd j' ver' q' h).2.2 with k | k
        · exact .inr (.inl (hq ▸ k))
        · exact .inr (.inr (hq ▸ k))
      · exact .inr (.inr (Nat.le_trans H.gr.size h2))

theorem callT_eqi {P : Program} {f : Nat} {args0 args : List TV} {s : TS} {h0 H1 : Heap} {R : TV} {K : TV → Heap → Prop} (τ : List (Nat × Nat)) (hc : callT P f args0 ⟨[], h0⟩ (fun r h => r = R ∧ h = H1))
    (h : okTau τ = true ∧ args = renL (mapId τ) args0 ∧ okL (fun b => (mapId τ b).isSome = true) args0 ∧ (∀ p ∈ h0, okB2 (mapId τ) (fun b => (mapId τ b).isSome = true) p.2.2 ∧ ∃ j, mapId τ p.1 = some j ∧ getH s.h j = some (p.2.1, renB (mapId τ) p.2.2)) ∧
      okT (fun _ => True) R ∧ (∀ p ∈ H1, (mapId τ p.1).isSome = true ∧ okB2 (mapId τ) (fun _ => True) p.2.2) ∧ K (renT (mapId τ) R) (applyH (mapId τ) H1 τ s.h)) : callT P f args s K := by
  obtain ⟨h1, h2, h3, h4, h5, h6, h7⟩ := h
  exact callT_usei τ hc h1 h2 h3 h4 fun r h ⟨e1, e2⟩ => by subst e1 e2; exact ⟨h5, h6, h7⟩
/-- With two versions that nobody knows. -/
theorem callT_exi2 {P : Program} {f : Nat} {args0 args : List TV} {s : TS} {h0 : Heap} {H1 : Nat → Nat → Heap} {R : Nat → Nat → TV} {K : TV → Heap → Prop} (τ : List (Nat × Nat)) (hc : callT P f args0 ⟨[], h0⟩ (fun r h => ∃ u v, r = R u v ∧ h = H1 u v))
    (h : okTau τ = true ∧ args = renL (mapId τ) args0 ∧ okL (fun b => (mapId τ b).isSome = true) args0 ∧ (∀ p ∈ h0, okB2 (mapId τ) (fun b => (mapId τ b).isSome = true) p.2.2 ∧ ∃ j, mapId τ p.1 = some j ∧ getH s.h j = some (p.2.1, renB (mapId τ) p.2.2)) ∧
      ∀ u v, okT (fun _ => True) (R u v) ∧ (∀ p ∈ H1 u v, (mapId τ p.1).isSome = true ∧ okB2 (mapId τ) (fun _ => True) p.2.2) ∧ K (renT (mapId τ) (R u v)) (applyH (mapId τ) (H1 u v) τ s.h)) : callT P f args s K := by
  obtain ⟨h1, h2, h3, h4, h5⟩ := h
  exact callT_usei τ hc h1 h2 h3 h4 fun r h ⟨u, v, e1, e2⟩ => by subst e1 e2; exact h5 u v
end Go.Proofs.YtnkdkajllmopaaaGreat.TL

