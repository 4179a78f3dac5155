/- Own words, part 20: a block bears another number. No program is named here. -/
import Derived.Test.YtekmhdiajjfgfaaDoorTt
namespace Go.Proofs.YtekmhdiajjfgfaaDoor.TL
open Go
set_option linter.unusedVariables false
set_option linter.unusedSimpArgs false

mutual
def mvT (b ver b' ver' : Nat) : TV → TV
  | .at b0 v o => if b0 = b ∧ v = ver then .at b' ver' o else .at b0 v o
  | .sl b0 v o n => if b0 = b ∧ v = ver then .sl b' ver' o n else .sl b0 v o n
  | .agg l => .agg (mvL b ver b' ver' l)
  | .tup l => .tup (mvL b ver b' ver' l)
  | .ifc t x => .ifc t (mvT b ver b' ver' x)
  | .opt g x => .opt g (mvT b ver b' ver' x)
  | .fn f c => .fn f (mvL b ver b' ver' c)
  | .v x => .v x
  | .isl c n => .isl c n
  | .iat c => .iat c
  | .any => .any
def mvL (b ver b' ver' : Nat) : List TV → List TV
  | [] => []
  | x :: l => mvT b ver b' ver' x :: mvL b ver b' ver' l
end
/-- The heap then: the block b bears the number b'. -/
def mvH (b ver b' ver' : Nat) (h : Heap) : Heap := h.map fun p => if p.1 = b then (b', ver', ⟨p.2.2.k, mvL b ver b' ver' p.2.2.cells⟩) else (p.1, p.2.1, ⟨p.2.2.k, mvL b ver b' ver' p.2.2.cells⟩)

theorem getH_mvH {b ver b' ver' : Nat} : ∀ (h : Heap), getH h b' = none → ∀ n, getH (mvH b ver b' ver' h) n = if n = b' then (getH h b).map (fun p => (ver', ⟨p.2.k, mvL b ver b' ver' p.2.cells⟩)) else if n = b then none else (getH h n).map fun p => (p.1, ⟨p.2.k, mvL b ver b' ver' p.2.cells⟩)
  | [], _, n => by simp [mvH, getH]
  | (k, x) :: l, hb', n => by
    simp only [getH] at hb'
    have hk' : b' ≠ k := fun h => by rw [if_pos h] at hb'; cases hb'
    rw [if_neg hk'] at hb'
    have ih := getH_mvH (b := b) (ver := ver) (ver' := ver') l hb' n
    simp only [mvH, List.map_cons] at ih ⊢
    by_cases hk : k = b
    · subst hk
      simp only [if_true, getH, ih]
      by_cases hn : n = b'
      · subst hn; simp
      · simp only [if_neg hn]
        by_cases hnk : n = k
        · rw [if_pos hnk, if_pos hnk]
        · rw [if_neg hnk, if_neg hnk, if_neg hnk]
    · simp only [if_neg hk, getH, ih, if_neg (Ne.symm hk)]
      by_cases hn : n = k
      · subst hn
        rw [if_pos rfl, if_neg (Ne.symm hk'), if_neg hk]
        simp
      · simp only [if_neg hn]

section
variable {P : Program} {e : Ent} {E : Env} {s : TS} {w : World}

def Env.mv (E : Env) (b b' : Nat) : Env := { I := E.I, ρ := fun x => if x = b' then (E.ρ b).map (fun p => (E.c + 1, p.2)) else if x = b then none else E.ρ x, c := E.c + 1 }
theorem Env.le_mv (E : Env) (b b' : Nat) : E.Le (E.mv b b') := ⟨Nat.le_succ _, fun _ _ _ x => x, fun x ver R hx hv => by
  simp only [Env.mv] at hx
  split at hx
  · obtain ⟨p, _, hp⟩ := Option.map_eq_some_iff.1 hx
    cases hp
    exact absurd hv (by omega)
  · split at hx
    · cases hx
    · exact hx⟩

mutual
theorem RV_mv {b ver b' : Nat} {R : Option Real} (hb : E.ρ b = some (ver, R)) : ∀ (x : TV) (y : Value), RV E x y → RV (E.mv b b') (mvT b ver b' (E.c + 1) x) y
  | .at b0 v o, y, hx => by
    simp only [mvT]
    split
    · rename_i hc
      obtain ⟨rfl, rfl⟩ := hc
      simp only [RV] at hx ⊢
      obtain ⟨p, h0, h1, h2⟩ := hx
      refine ⟨p, h0, by simp [Env.mv], fun R' hR' => h2 R' ?_⟩
      simp [Env.mv, hb] at hR'
      rw [hb, hR']
    · exact RV.mono (E.le_mv b b') _ _ hx
  | .sl b0 v o n, y, hx => by
    simp only [mvT]
    split
    · rename_i hc
      obtain ⟨rfl, rfl⟩ := hc
      simp only [RV] at hx ⊢
      obtain ⟨a, cap, h0, h1, h2, h3, h4⟩ := hx
      refine ⟨a, cap, h0, h1, h2, by simp [Env.mv], fun R' hR' => h4 R' ?_⟩
      simp [Env.mv, hb] at hR'
      rw [hb, hR']
    · exact RV.mono (E.le_mv b b') _ _ hx
  | .agg l, _, hx => by
    simp only [mvT, RV] at hx ⊢
    obtain ⟨zs, h1, h2, h3⟩ := hx
    obtain ⟨k1, k2⟩ := RVl_mv hb l _ _ h3
    exact ⟨zs, h1, by rw [k1]; exact h2, k2⟩
  | .tup l, _, hx => by
    simp only [mvT, RV] at hx ⊢
    obtain ⟨zs, h1, h2, h3⟩ := hx
    obtain ⟨k1, k2⟩ := RVl_mv hb l _ _ h3
    exact ⟨zs, h1, by rw [k1]; exact h2, k2⟩
  | .fn f l, _, hx => by
    simp only [mvT, RV] at hx ⊢
    obtain ⟨zs, h1, h2, h3⟩ := hx
    obtain ⟨k1, k2⟩ := RVl_mv hb l _ _ h3
    exact ⟨zs, h1, by rw [k1]; exact h2, k2⟩
  | .ifc _ x, _, hx => by
    simp only [mvT, RV] at hx ⊢
    obtain ⟨z, h1, h2⟩ := hx
    exact ⟨z, h1, RV_mv hb x z h2⟩
  | .opt _ x, y, hx => by
    simp only [mvT, RV] at hx ⊢
    exact ⟨fun hg => RV_mv hb x y (hx.1 hg), hx.2⟩
  | .v _, y, hx => by simp only [mvT]; exact RV.mono (E.le_mv b b') _ _ hx
  | .isl _ _, y, hx => by simp only [mvT]; exact RV.mono (E.le_mv b b') _ _ hx
  | .iat _, y, hx => by simp only [mvT]; exact RV.mono (E.le_mv b b') _ _ hx
  | .any, y, hx => by simp only [mvT, RV]
theorem RVl_mv {b ver b' : Nat} {R : Option Real} (hb : E.ρ b = some (ver, R)) : ∀ (l : List TV) (f : Nat → Option Value) (o : Nat), RVl E l f o → (mvL b ver b' (E.c + 1) l).length = l.length ∧ RVl (E.mv b b') (mvL b ver b' (E.c + 1) l) f o
  | [], _, _, _ => by simp only [mvL, RVl, and_self]
  | x :: l, f, o, hx => by
    simp only [mvL, RVl] at hx ⊢
    obtain ⟨⟨v, h1, h2⟩, h3⟩ := hx
    obtain ⟨k1, k2⟩ := RVl_mv hb l f (o + 1) h3
    exact ⟨by simp [k1], ⟨v, h1, RV_mv hb x v h2⟩, k2⟩
end

theorem mvL_length {b ver b' ver' : Nat} : ∀ l : List TV, (mvL b ver b' ver' l).length = l.length
  | [] => rfl
  | x :: l => by simp [mvL, mvL_length l]

theorem SatH.mv {h : Heap} (H : SatH e E h w) {b ver b' : Nat} {B : Blk} (hb : getH h b = some (ver, B)) (hb' : getH h b' = none) : SatH e (E.mv b b') (mvH b ver b' (E.c + 1) h) w := by
  obtain ⟨R0, hR0, hB0⟩ := H.live b ver B hb
  have hbb : b ≠ b' := fun hh => by rw [← hh, hb] at hb'; cases hb'
  have blk : ∀ (B : Blk) R, BlkRel w E B R → BlkRel w (E.mv b b') ⟨B.k, mvL b ver b' (E.c + 1) B.cells⟩ R := fun B R hB => by
    rcases hB with ⟨k0, k1, k2⟩ | ⟨q, k1, k2, k3, k4, k5⟩
    · exact .inl ⟨k0, k1, by simp [k2, mvL]⟩
    · exact .inr ⟨q, k1, k2, by simp only [mvL_length]; exact k3, k4, (RVl_mv hR0 _ _ _ k5).2⟩
  have back : ∀ x ver R, (E.mv b b').ρ x = some (ver, R) → ∃ y ver', E.ρ y = some (ver', R) ∧ (x = b' ∧ y = b ∨ x ≠ b' ∧ x ≠ b ∧ y = x ∧ ver' = ver) := fun x ver R hx => by
    simp only [Env.mv] at hx
    split at hx
    · obtain ⟨p, hp1, hp2⟩ := Option.map_eq_some_iff.1 hx
      cases hp2
      exact ⟨b, p.1, hp1, .inl ⟨‹_›, rfl⟩⟩
    · split at hx
      · cases hx
      · exact ⟨x, ver, hx, .inr ⟨‹_›, ‹_›, rfl, rfl⟩⟩
  refine ⟨H.imm, fun x ver' B' hx => ?_, fun x hx => ?_, fun x ver R hx => ?_, fun x ver q hx => ?_, fun x y ver ver' q q' hx hy hr => ?_, ?_⟩
  · rw [getH_mvH h hb'] at hx
    by_cases hxb : x = b'
    · subst hxb
      rw [if_pos rfl, hb] at hx
      cases hx
      exact ⟨R0, by simp [Env.mv, hR0], blk B R0 hB0⟩
    · rw [if_neg hxb] at hx
      by_cases hxb2 : x = b
      · rw [if_pos hxb2] at hx; cases hx
      · rw [if_neg hxb2] at hx
        obtain ⟨p, hp1, hp2⟩ := Option.map_eq_some_iff.1 hx
        cases hp2
        obtain ⟨R, h1, h2⟩ := H.live x p.1 p.2 hp1
        exact ⟨R, by simp [Env.mv, hxb, hxb2, h1], blk _ R h2⟩
  · rw [getH_mvH h hb'] at hx
    by_cases hxb : x = b'
    · rw [if_pos hxb, hb] at hx; cases hx
    · rw [if_neg hxb] at hx
      simp only [Env.mv, if_neg hxb]
      by_cases hxb2 : x = b
      · rw [if_pos hxb2]
      · rw [if_neg hxb2] at hx ⊢
        exact H.dead x (by simpa using hx)
  · simp only [Env.mv] at hx ⊢
    split at hx
    · obtain ⟨p, _, hp⟩ := Option.map_eq_some_iff.1 hx
      cases hp; exact Nat.le_refl _
    · split at hx
      · cases hx
      · exact Nat.le_succ_of_le (H.vers x ver R hx)
  · obtain ⟨y, ver', hy, _⟩ := back x ver _ hx
    exact H.ownd y ver' q hy
  · obtain ⟨x0, v0, hx0, c0⟩ := back x ver _ hx
    obtain ⟨y0, v1, hy0, c1⟩ := back y ver' _ hy
    have := H.apart _ _ _ _ _ _ hx0 hy0 hr
    rcases c0 with ⟨c0, c0'⟩ | ⟨c0, c00, c0', _⟩ <;> rcases c1 with ⟨c1, c1'⟩ | ⟨c1, c11, c1', _⟩
    · rw [c0, c1]
    · exact absurd (c1'.symm.trans (this.symm.trans c0')) c11
    · exact absurd (c0'.symm.trans (this.trans c1')) c00
    · exact c0'.symm.trans (this.trans c1')
  · exact ⟨H.gr.size, H.gr.frame, H.gr.os, H.gr.tape, H.gr.output, H.gr.le.trans (E.le_mv b b'), H.gr.newI⟩

/-- A BLOCK BEARS ANOTHER NUMBER. -/
theorem VLx.mv {r : TV} {h : Heap} {S : TV → Heap → Prop} (b b' : Nat) {ver : Nat} {B : Blk} (hb : getH h b = some (ver, B)) (hb' : getH h b' = none) (k : ∀ ver', VLx (mvT b ver b' ver' r) (mvH b ver b' ver' h) S) : VLx r h S := fun e E w v H hr =>
  let ⟨R, hR, _⟩ := H.live b ver B hb
  let ⟨r', h'', E', a, l, c, d⟩ := k (E.c + 1) e _ w v (H.mv hb hb') (RV_mv hR r v hr)
  ⟨r', h'', E', a, (E.le_mv b b').trans l, c, d⟩
theorem SLx.mv {s : TS} {S : TS → Prop} (b b' : Nat) {ver : Nat} {B : Blk} (hb : getH s.h b = some (ver, B)) (hb' : getH s.h b' = none) (k : ∀ ver', SLx ⟨s.t.map fun p => (p.1, mvT b ver b' ver' p.2), mvH b ver b' ver' s.h⟩ S) : SLx s S := fun e E w tmps H hT => by
  obtain ⟨R, hR, _⟩ := H.live b ver B hb
  refine SLx.step (k (E.c + 1)) (E.le_mv b b') (H.mv hb hb') (fun n => ?_)
  have : getT (s.t.map fun p => (p.1, mvT b ver b' (E.c + 1) p.2)) n = mvT b ver b' (E.c + 1) (getT s.t n) := by
    induction s.t with
    | nil => simp [getT, mvT]
    | cons p l ih =>
      obtain ⟨k, x⟩ := p
      simp only [List.map_cons, getT]
      by_cases hn : n = k
      · rw [if_pos hn, if_pos hn]
      · rw [if_neg hn, if_neg hn]; exact ih
  rw [this]
  exact RV_mv hR _ _ (hT n)

theorem SatH.nilCell {h : Heap} (H : SatH e E h w) (i j b k : Nat) {ver : Nat} {B : Blk} (hk : k ≠ 0) (hbi : b ≠ i) (hi : getH h i = some (ver, B)) (hj : B.cells[j]? = some (.v (.slice none 0 0))) :
    SatH e (E.slot b none) (setH (setH h b (E.c + 1, ⟨k, []⟩)) i (ver, ⟨B.k, B.cells.set j (.sl b (E.c + 1) 0 0)⟩)) w := by
  have H1 := H.nil b k hk
  have hi1 : getH (setH h b (E.c + 1, ⟨k, []⟩)) i = some (ver, B) := by rw [getH_setH, if_neg (Ne.symm hbi)]; exact hi
  refine ⟨H1.imm, fun x ver' B' hx => ?_, fun x hx => ?_, H1.vers, H1.ownd, H1.apart, H1.gr⟩
  · rw [getH_setH] at hx
    by_cases hxi : x = i
    · subst hxi
      rw [if_pos rfl] at hx
      cases hx
      obtain ⟨R, hR, hB⟩ := H1.live x ver B hi1
      refine ⟨R, hR, ?_⟩
      rcases hB with ⟨_, _, b3⟩ | ⟨q, b1, b2, b3, b4, b5⟩
      · rw [b3] at hj; simp at hj
      · refine .inr ⟨q, b1, b2, by simpa using b3, b4, RVl.of fun y z hz => ?_⟩
        rw [List.getElem?_set] at hz
        split at hz
        · rename_i hy
          subst hy
          obtain ⟨v, v1, v2⟩ := b5.get _ _ hj
          simp only [RV] at v2
          subst v2
          split at hz
          · cases hz; exact ⟨_, v1, nil_new (s := ⟨[], h⟩) H⟩
          · cases hz
        · exact b5.get _ _ hz
    · rw [if_neg hxi] at hx
      exact H1.live x ver' B' hx
  · rw [getH_setH] at hx
    by_cases hxi : x = i
    · rw [if_pos hxi] at hx; cases hx
    · rw [if_neg hxi] at hx; exact H1.dead x hx
theorem VLx.nilCell {r : TV} {h : Heap} {S : TV → Heap → Prop} (i j b k : Nat) {ver : Nat} {B : Blk} (hk : k ≠ 0) (hbi : b ≠ i) (hi : getH h i = some (ver, B)) (hj : B.cells[j]? = some (.v (.slice none 0 0)))
    (n : ∀ v, VLx r (setH (setH h b (v, ⟨k, []⟩)) i (ver, ⟨B.k, B.cells.set j (.sl b v 0 0)⟩)) S) : VLx r h S := fun e E w v H hr =>
  let ⟨r', h'', E', a, l, c, d⟩ := n (E.c + 1) e _ w v (H.nilCell i j b k hk hbi hi hj) (hr.mono (H.le_slot b none) _ _)
  ⟨r', h'', E', a, (H.le_slot b none).trans l, c, d⟩
theorem SLx.nilCell {s : TS} {S : TS → Prop} (i j b k : Nat) {ver : Nat} {B : Blk} (hk : k ≠ 0) (hbi : b ≠ i) (hi : getH s.h i = some (ver, B)) (hj : B.cells[j]? = some (.v (.slice none 0 0)))
    (n : ∀ v, SLx ⟨s.t, setH (setH s.h b (v, ⟨k, []⟩)) i (ver, ⟨B.k, B.cells.set j (.sl b v 0 0)⟩)⟩ S) : SLx s S := fun e E w tmps H hT =>
  SLx.step (n (E.c + 1)) (H.le_slot b none) (H.nilCell i j b k hk hbi hi hj) (hT.mono (H.le_slot b none))

mutual
/-- What names no own block stays. -/
theorem mvT_clo {b ver b' ver' : Nat} : ∀ (x : TV), Clo x → mvT b ver b' ver' x = x
  | .at _ _ _, h => by simp only [Clo] at h
  | .sl _ _ _ _, h => by simp only [Clo] at h
  | .agg l, h => by simp only [Clo] at h; simp only [mvT]; rw [mvL_clo l h]
  | .tup l, h => by simp only [Clo] at h; simp only [mvT]; rw [mvL_clo l h]
  | .fn f l, h => by simp only [Clo] at h; simp only [mvT]; rw [mvL_clo l h]
  | .ifc t x, h => by simp only [Clo] at h; simp only [mvT]; rw [mvT_clo x h]
  | .opt g x, h => by simp only [Clo] at h; simp only [mvT]; rw [mvT_clo x h]
  | .v _, _ => rfl
  | .isl _ _, _ => rfl
  | .iat _, _ => rfl
  | .any, _ => rfl
theorem mvL_clo {b ver b' ver' : Nat} : ∀ (l : List TV), CloL l → mvL b ver b' ver' l = l
  | [], _ => rfl
  | x :: l, h => by simp only [CloL] at h; simp only [mvL]; rw [mvT_clo x h.1, mvL_clo l h.2]
end
end
end Go.Proofs.YtekmhdiajjfgfaaDoor.TL
