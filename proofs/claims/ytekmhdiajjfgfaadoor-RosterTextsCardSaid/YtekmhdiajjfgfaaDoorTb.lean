/- Own words: how a world that fits a state goes on: a draw, a new block, a store into an own block, an append, a block given up, a block that never changes any more. No program is named here. -/
import Derived.Test.YtekmhdiajjfgfaaDoorTa
namespace Go.Proofs.YtekmhdiajjfgfaaDoor.TL
open Go
set_option linter.unusedVariables false
set_option linter.unusedSimpArgs false

theorem heap_alloc_lt (w : World) (o : Obj) (k : Nat) (h : k < w.heap.size) : (w.alloc o).heap[k]? = w.heap[k]? := by
  show (w.heap.push o)[k]? = _
  rw [Array.getElem?_push, if_neg (by omega)]

theorem heap_setCells_ne (b : Nat) : ∀ (vs : List Value) (o : Nat) (w : World) (r : Nat), r ≠ b → (w.setCells b o vs).heap[r]? = w.heap[r]?
  | [], _, _, _, _ => rfl
  | v :: l, o, w, r, h => by
    rw [World.setCells, heap_setCells_ne b l _ _ r h]
    simp only [World.setCell, Array.getElem?_modify]
    rw [if_neg (Ne.symm h)]

theorem size_setCells (b : Nat) : ∀ (vs : List Value) (o : Nat) (w : World), (w.setCells b o vs).heap.size = w.heap.size
  | [], _, _ => rfl
  | v :: l, o, w => by rw [World.setCells, size_setCells b l]; simp
theorem rest_setCells (b : Nat) : ∀ (vs : List Value) (o : Nat) (w : World), (w.setCells b o vs).os = w.os ∧ (w.setCells b o vs).tape = w.tape ∧ (w.setCells b o vs).output = w.output
  | [], _, _ => ⟨rfl, rfl, rfl⟩
  | v :: l, o, w => by
    obtain ⟨h1, h2, h3⟩ := rest_setCells b l (o + 1) (w.setCell ⟨b, o, none⟩ v)
    exact ⟨h1, h2, h3⟩

theorem cell_lt {w : World} {r o : Nat} {v : Value} (h : w.cell? ⟨r, o, none⟩ = some v) : r < w.heap.size := World.block_lt_of_cell? w _ h

theorem BlkRel.mono {w w' : World} {E E' : Env} {B : Blk} {R : Option Real} (hE : E.Le E') (hw : ∀ q o, R = some q → w'.cell? ⟨q.r, o, none⟩ = w.cell? ⟨q.r, o, none⟩ ∧ w'.frozen? ⟨q.r, o, none⟩ = w.frozen? ⟨q.r, o, none⟩)
    (h : BlkRel w E B R) : BlkRel w' E' B R := by
  rcases h with h | ⟨q, h1, h2, h3, h4, h5⟩
  · exact .inl h
  · refine .inr ⟨q, h1, h2, h3, fun o ho => ?_, RVl.mono hE _ _ _ _ (fun o v hv => ?_) h5⟩
    · rw [(hw q o h1).1, (hw q o h1).2]; exact h4 o ho
    · rw [(hw q o h1).1]; exact hv

section
variable {e : Ent} {E : Env} {h : Heap} {w : World}

theorem SatH.drew (H : SatH e E h w) : SatH e E h w.drew :=
  ⟨H.imm, fun b ver B hb => let ⟨R, h1, h2⟩ := H.live b ver B hb; ⟨R, h1, h2.mono (Env.Le.refl _) fun _ _ _ => ⟨rfl, rfl⟩⟩, H.dead, H.vers, H.ownd, H.apart,
    ⟨H.gr.size, H.gr.frame, H.gr.os, H.gr.tape, H.gr.output, H.gr.le, H.gr.newI⟩⟩

/-- The environment behind a slot's new place. -/
def Env.slot (E : Env) (b : Nat) (R : Option Real) : Env := { I := E.I, ρ := fun x => if x = b then some (E.c + 1, R) else E.ρ x, c := E.c + 1 }

theorem SatH.le_slot (H : SatH e E h w) (b : Nat) (R : Option Real) : E.Le (E.slot b R) :=
  ⟨Nat.le_succ _, fun _ _ _ x => x, fun x ver R' hx hv => by
    simp only [Env.slot] at hx
    split at hx
    · cases hx; exact absurd hv (by have := E.c; omega)
    · exact hx⟩

/-- A slot's new block (new memory, or the old block from another cell on). -/
theorem SatH.slot (H : SatH e E h w) (b : Nat) (B : Blk) (R : Option Real) (w' : World) (hsz : w.heap.size ≤ w'.heap.size)
    (hold : ∀ r, r < w.heap.size → (∀ ver q, E.ρ b = some (ver, some q) → ∀ q', R = some q' → q'.r = q.r → r ≠ q.r) → w'.heap[r]? = w.heap[r]?)
    (hos : w'.os = w.os) (htape : w'.tape = w.tape) (hout : w'.output = w.output)
    (hR : ∀ q, R = some q → q.r < w'.heap.size ∧ ((∃ ver q0, E.ρ b = some (ver, some q0) ∧ q0.r = q.r) ∨ w.heap.size ≤ q.r))
    (hB : BlkRel w' (E.slot b R) B R) : SatH e (E.slot b R) (setH h b (E.c + 1, B)) w' := by
  have hle := H.le_slot b R
  have hcell : ∀ r, r < w.heap.size → (∀ ver q, E.ρ b = some (ver, some q) → ∀ q', R = some q' → q'.r = q.r → r ≠ q.r) → ∀ o, w'.cell? ⟨r, o, none⟩ = w.cell? ⟨r, o, none⟩ ∧ w'.frozen? ⟨r, o, none⟩ = w.frozen? ⟨r, o, none⟩ := fun r hr hn o => by
    simp only [World.cell?, World.frozen?, hold r hr hn, and_self]
  refine ⟨?_, ?_, ?_, ?_, ?_, ?_, ?_⟩
  · intro r o v hv
    have h1 := H.imm r o v hv
    rw [(hcell r (cell_lt h1) (fun ver q hq q' _ _ => ?_) o).1, h1]
    rintro rfl
    have := (H.ownd b ver q hq).2.1 o
    simp only [Env.slot] at hv
    rw [this] at hv
    cases hv
  · intro x ver B' hx
    rw [getH_setH] at hx
    by_cases hxb : x = b
    · subst hxb
      rw [if_pos rfl] at hx
      cases hx
      exact ⟨R, by simp [Env.slot], hB⟩
    · rw [if_neg hxb] at hx
      obtain ⟨R', h1, h2⟩ := H.live x ver B' hx
      refine ⟨R', by simp [Env.slot, hxb, h1], h2.mono hle fun q o hq => hcell q.r (H.ownd x ver q (hq ▸ h1)).1 (fun ver' q' hq' _ _ _ e => hxb (H.apart _ _ _ _ _ _ (hq ▸ h1) hq' e)) o⟩
  · intro x hx
    rw [getH_setH] at hx
    by_cases hxb : x = b
    · rw [if_pos hxb] at hx; cases hx
    · rw [if_neg hxb] at hx; simp [Env.slot, hxb, H.dead x hx]
  · intro x ver R' hx
    simp only [Env.slot] at hx ⊢
    split at hx
    · cases hx; exact Nat.le_refl _
    · exact Nat.le_succ_of_le (H.vers x ver R' hx)
  · intro x ver q hx
    simp only [Env.slot] at hx ⊢
    split at hx
    · cases hx
      obtain ⟨h1, h2⟩ := hR q rfl
      refine ⟨h1, ?_, ?_⟩
      · rcases h2 with ⟨ver', q0, h3, h4⟩ | h3
        · rw [← h4]; exact (H.ownd _ _ _ h3).2.1
        · intro o
          cases hI : E.I q.r o with
          | none => rfl
          | some v => exact absurd (cell_lt (H.imm _ _ _ hI)) (by omega)
      · rcases h2 with ⟨ver', q0, h3, h4⟩ | h3
        · rw [← h4]; exact (H.ownd _ _ _ h3).2.2
        · exact .inr (Nat.le_trans H.gr.size h3)
    · obtain ⟨h1, h2, h3⟩ := H.ownd x ver q hx
      exact ⟨Nat.lt_of_lt_of_le h1 hsz, h2, h3⟩
  · intro x y ver ver' q q' hx hy hr
    simp only [Env.slot] at hx hy
    by_cases hxb : x = b <;> by_cases hyb : y = b
    · rw [hxb, hyb]
    · rw [if_pos hxb] at hx; rw [if_neg hyb] at hy
      cases hx
      exfalso
      rcases (hR q rfl).2 with ⟨v0, q0, h3, h4⟩ | h3
      · exact hyb (H.apart _ _ _ _ _ _ hy h3 (by rw [← hr, h4]))
      · have := (H.ownd _ _ _ hy).1; omega
    · rw [if_neg hxb] at hx; rw [if_pos hyb] at hy
      cases hy
      exfalso
      rcases (hR q' rfl).2 with ⟨v0, q0, h3, h4⟩ | h3
      · exact hxb (H.apart _ _ _ _ _ _ hx h3 (by rw [hr, h4]))
      · have := (H.ownd _ _ _ hx).1; omega
    · rw [if_neg hxb] at hx; rw [if_neg hyb] at hy
      exact H.apart _ _ _ _ _ _ hx hy hr
  · refine ⟨Nat.le_trans H.gr.size hsz, fun r hr hO => ?_, hos.trans H.gr.os, htape.trans H.gr.tape, hout.trans H.gr.output, H.gr.le.trans hle, H.gr.newI⟩
    rw [hold r (Nat.lt_of_lt_of_le hr H.gr.size) (fun ver q hq _ _ _ e => ?_), H.gr.frame r hr hO]
    rcases (H.ownd _ _ _ hq).2.2 with h1 | h1
    · exact hO (e ▸ h1)
    · omega

/-- New memory for a slot. -/
theorem SatH.alloc (H : SatH e E h w) (b k : Nat) (cells : List TV) (arr : Array Value) (T : TypeId) (hl : cells.length ≤ arr.size) (hv : RVl E cells (fun i => arr[i]?) 0) :
    SatH e (E.slot b (some ⟨w.heap.size, 0, arr.size, k⟩)) (setH h b (E.c + 1, ⟨k, cells⟩)) (w.alloc (.cells arr T)) := by
  refine H.slot b ⟨k, cells⟩ _ _ (by simp) (fun r hr _ => heap_alloc_lt _ _ _ hr) rfl rfl rfl (fun q hq => ?_) (.inr ⟨_, rfl, rfl, by simpa using hl, fun o ho => ?_, ?_⟩)
  · cases hq; exact ⟨by simp, .inr (Nat.le_refl _)⟩
  · simp only [World.cell?_alloc_new, World.frozen?_alloc_new]
    exact ⟨by simpa using ho, trivial⟩
  · refine RVl.mono (H.le_slot b _) _ _ _ _ (fun o v ho => ?_) hv
    simpa using ho

/-- A slot without memory: a slice of no elements that nobody made. -/
theorem SatH.nil (H : SatH e E h w) (b k : Nat) (hk : k ≠ 0) : SatH e (E.slot b none) (setH h b (E.c + 1, ⟨k, []⟩)) w :=
  H.slot b ⟨k, []⟩ none w (Nat.le_refl _) (fun _ _ _ => rfl) rfl rfl rfl (fun _ hq => by cases hq) (.inl ⟨rfl, hk, rfl⟩)

def over (cells : List TV) (o : Nat) (new : List TV) : List TV := cells.take o ++ new ++ cells.drop (o + new.length)

theorem over_length {cells new : List TV} {o : Nat} (h : o + new.length ≤ cells.length) : (over cells o new).length = cells.length := by
  simp only [over, List.length_append, List.length_take, List.length_drop]; omega

theorem RVl.over {E : Env} {cells new : List TV} {f f' : Nat → Option Value} {b o : Nat} (h : RVl E cells f b) (hn : RVl E new f' (b + o)) (hl : o + new.length ≤ cells.length)
    (hf : ∀ j, j < o ∨ o + new.length ≤ j → f' (b + j) = f (b + j)) : RVl E (over cells o new) f' b := by
  refine RVl.of fun j x hx => ?_
  unfold TL.over at hx
  rw [List.append_assoc, List.getElem?_append, List.length_take] at hx
  split at hx
  · rename_i hj
    rw [List.getElem?_take] at hx
    split at hx
    · rw [hf j (.inl (by omega))]; exact h.get j x hx
    · cases hx
  · rename_i hj
    rw [List.getElem?_append] at hx
    split at hx
    · obtain ⟨v, h1, h2⟩ := hn.get _ x hx
      exact ⟨v, by rw [← h1]; congr 1; omega, h2⟩
    · rename_i hj2
      rw [List.getElem?_drop] at hx
      rw [hf j (.inr (by omega))]
      have : o + new.length + (j - min o cells.length - new.length) = j := by omega
      rw [this] at hx
      exact h.get j x hx

/-- A store into cells of an own block. -/
theorem SatH.store (H : SatH e E h w) {b ver : Nat} {B : Blk} {q : Real} (hb : getH h b = some (ver, B)) (hq : E.ρ b = some (ver, some q)) {o : Nat} {new : List TV} {vs : List Value} (hl : o + new.length ≤ B.cells.length) (hlv : vs.length = new.length)
    (hv : RVl E new (fun i => vs[i]?) 0) : SatH e E (setH h b (ver, ⟨B.k, over B.cells o new⟩)) (w.setCells q.r (q.base + o) vs) := by
  obtain ⟨R, hR, hB⟩ := H.live b ver B hb
  rw [hq] at hR
  obtain rfl : R = some q := by simpa using hR.symm
  rcases hB with ⟨h0, _, _⟩ | ⟨q', h1, h2, h3, h4, h5⟩
  · cases h0
  obtain rfl : q = q' := by simpa using h1
  have hin := World.cell?_setCells_in q.r vs (q.base + o) w (fun j hj => (h4 _ (by omega)).1)
  have hout : ∀ i, (i < q.base + o ∨ q.base + o + vs.length ≤ i) → (w.setCells q.r (q.base + o) vs).cell? ⟨q.r, i, none⟩ = w.cell? ⟨q.r, i, none⟩ := fun i hi =>
    World.cell?_setCells_out q.r vs (q.base + o) w ⟨q.r, i, none⟩ (fun _ _ => hi)
  have hother : ∀ r, r ≠ q.r → ∀ i, (w.setCells q.r (q.base + o) vs).cell? ⟨r, i, none⟩ = w.cell? ⟨r, i, none⟩ := fun r hr i =>
    World.cell?_setCells_out q.r vs (q.base + o) w ⟨r, i, none⟩ (fun hh _ => absurd hh hr)
  refine ⟨?_, ?_, ?_, H.vers, ?_, H.apart, ?_⟩
  · intro r i v hI
    rw [hother r (fun hr => by have := (H.ownd _ _ _ hq).2.1 i; rw [← hr, hI] at this; cases this)]
    exact H.imm r i v hI
  · intro x ver' B' hx
    rw [getH_setH] at hx
    by_cases hxb : x = b
    · subst hxb
      rw [if_pos rfl] at hx
      cases hx
      refine ⟨some q, hq, .inr ⟨q, rfl, h2, by rw [over_length hl]; exact h3, fun i hi => ?_, ?_⟩⟩
      · rw [World.frozen?_setCells]
        refine ⟨?_, (h4 i hi).2⟩
        by_cases hin' : q.base + o ≤ i ∧ i < q.base + o + vs.length
        · have := hin (i - (q.base + o)) (by omega)
          rw [show q.base + o + (i - (q.base + o)) = i by omega] at this
          rw [this]; rfl
        · rw [hout i (by omega)]; exact (h4 i hi).1
      · refine RVl.over h5 (RVl.of fun j x hj => ?_) hl (fun j hj => hout _ (by omega))
        obtain ⟨v, k1, k2⟩ := hv.get j x hj
        rw [Nat.zero_add] at k1
        obtain ⟨hj', rfl⟩ := List.getElem?_eq_some_iff.1 k1
        exact ⟨_, hin j hj', k2⟩
    · rw [if_neg hxb] at hx
      obtain ⟨R', k1, k2⟩ := H.live x ver' B' hx
      refine ⟨R', k1, k2.mono (Env.Le.refl _) fun q' i hq' => ?_⟩
      rw [World.frozen?_setCells]
      exact ⟨hother _ (fun hr => hxb (H.apart _ _ _ _ _ _ (hq' ▸ k1) hq hr)) i, rfl⟩
  · intro x hx
    rw [getH_setH] at hx
    by_cases hxb : x = b
    · rw [if_pos hxb] at hx; cases hx
    · rw [if_neg hxb] at hx; exact H.dead x hx
  · intro x ver' q' hx
    rw [size_setCells]
    exact H.ownd x ver' q' hx
  · obtain ⟨r1, r2, r3⟩ := rest_setCells q.r vs (q.base + o) w
    refine ⟨by rw [size_setCells]; exact H.gr.size, fun r hr hO => ?_, r1.trans H.gr.os, r2.trans H.gr.tape, r3.trans H.gr.output, H.gr.le, H.gr.newI⟩
    rw [heap_setCells_ne _ _ _ _ _ (fun hh => ?_)]
    · exact H.gr.frame r hr hO
    · rcases (H.ownd _ _ _ hq).2.2 with k | k
      · exact hO (hh ▸ k)
      · omega

/-- A slot given up. -/
def Env.del (E : Env) (b : Nat) : Env := { E with ρ := fun x => if x = b then none else E.ρ x }
theorem Env.le_del (E : Env) (b : Nat) : E.Le (E.del b) := ⟨Nat.le_refl _, fun _ _ _ x => x, fun x ver R hx _ => by
  simp only [Env.del] at hx
  split at hx
  · cases hx
  · exact hx⟩
theorem SatH.del (H : SatH e E h w) (b : Nat) : SatH e (E.del b) (delH h b) w := by
  have hρ : ∀ x y, (E.del b).ρ x = some y → x ≠ b ∧ E.ρ x = some y := fun x y hx => by
    simp only [Env.del] at hx
    split at hx
    · cases hx
    · exact ⟨‹_›, hx⟩
  refine ⟨H.imm, fun x ver B hx => ?_, fun x hx => ?_, fun x ver R hx => H.vers x ver R (hρ _ _ hx).2, fun x ver q hx => H.ownd x ver q (hρ _ _ hx).2, fun x y ver ver' q q' hx hy => H.apart x y ver ver' q q' (hρ _ _ hx).2 (hρ _ _ hy).2, ?_⟩
  · rw [getH_delH] at hx
    split at hx
    · cases hx
    · obtain ⟨R, h1, h2⟩ := H.live x ver B hx
      exact ⟨R, by simp [Env.del, *], h2.mono (Env.le_del E b) fun _ _ _ => ⟨rfl, rfl⟩⟩
  · rw [getH_delH] at hx
    simp only [Env.del]
    split
    · rfl
    · rw [if_neg ‹_›] at hx; exact H.dead x hx
  · exact ⟨H.gr.size, H.gr.frame, H.gr.os, H.gr.tape, H.gr.output, H.gr.le.trans (Env.le_del E b), H.gr.newI⟩

end
end Go.Proofs.YtekmhdiajjfgfaaDoor.TL
