/- Own words, part 13: states and values that say less; blocks that never change any more. No program is named here. -/
import Derived.Test.YtekmhdiajjfgfaaDoorTn
namespace Go.Proofs.YtekmhdiajjfgfaaDoor.TL
open Go
set_option linter.unusedVariables false
set_option linter.unusedSimpArgs false

section
variable {P : Program} {e : Ent} {E : Env} {s : TS} {w : World}

theorem getT_sub {t t' : List (Nat × TV)} (h : ∀ p ∈ t', getT t p.1 = p.2) (n : Nat) : getT t' n = getT t n ∨ getT t' n = .any := by
  induction t' with
  | nil => exact .inr rfl
  | cons p l ih =>
    obtain ⟨k, x⟩ := p
    simp only [getT]
    by_cases hn : n = k
    · subst hn; rw [if_pos rfl]; exact .inl (h (n, x) List.mem_cons_self).symm
    · rw [if_neg hn]; exact ih fun q hq => h q (List.mem_cons_of_mem _ hq)

/-- The same environment, of some blocks alone. -/
def Env.few (E : Env) (h : Heap) : Env := { I := E.I, ρ := fun x => if (getH h x).isSome then E.ρ x else none, c := E.c }
theorem Env.le_few (E : Env) (h : Heap) : E.Le (E.few h) := ⟨Nat.le_refl _, fun _ _ _ x => x, fun x ver R hx _ => by
  simp only [Env.few] at hx
  split at hx
  · exact hx
  · cases hx⟩
theorem SatH.few {h h' : Heap} (H : SatH e E h w) (hh : ∀ p ∈ h', getH h p.1 = some p.2) : SatH e (E.few h') h' w := by
  have hρ : ∀ x y, (E.few h').ρ x = some y → E.ρ x = some y := fun x y hx => by
    simp only [Env.few] at hx
    split at hx
    · exact hx
    · cases hx
  have hle := E.le_few h'
  refine ⟨H.imm, fun x ver B hx => ?_, fun x hx => by simp [Env.few, hx], fun x ver R hx => H.vers x ver R (hρ _ _ hx), fun x ver q hx => H.ownd x ver q (hρ _ _ hx), fun x y ver ver' q q' hx hy => H.apart x y ver ver' q q' (hρ _ _ hx) (hρ _ _ hy), ?_⟩
  · obtain ⟨R, h1, h2⟩ := H.live x ver B (hh _ (getH_mem hx))
    exact ⟨R, by simp [Env.few, hx, h1], h2.mono hle fun _ _ _ => ⟨rfl, rfl⟩⟩
  · exact ⟨H.gr.size, H.gr.frame, H.gr.os, H.gr.tape, H.gr.output, H.gr.le.trans hle, H.gr.newI⟩

/-- SOME TEMPORARIES, SOME BLOCKS ARE FORGOTTEN. -/
theorem SLx.sub {s : TS} {S : TS → Prop} (s' : TS) (ht : ∀ p ∈ s'.t, getT s.t p.1 = p.2) (hh : ∀ p ∈ s'.h, getH s.h p.1 = some p.2) (h : SLx s' S) : SLx s S := fun e E w tmps H hT =>
  SLx.step h (E.le_few s'.h) (H.few hh) fun n => by
    rcases getT_sub ht n with h | h
    · rw [h]; exact (hT n).mono (E.le_few s'.h) _ _
    · rw [h]; simp only [RV]
/-- .. and that is the end. -/
theorem SLx.fin {s : TS} {S : TS → Prop} (s' : TS) (hS : S s') (ht : ∀ p ∈ s'.t, getT s.t p.1 = p.2) (hh : ∀ p ∈ s'.h, getH s.h p.1 = some p.2) : SLx s S := SLx.sub s' ht hh (SLx.done hS)

/-- The loop's head again. -/
theorem SLx.again {X : Type} {J : X → Prop} {S : X → TS} {μ : X → Nat} {n : Nat} {s : TS} (y : X) (hJ : J y) (hn : μ y < n) (ht : ∀ p ∈ (S y).t, getT s.t p.1 = p.2) (hh : ∀ p ∈ (S y).h, getH s.h p.1 = some p.2) : SLx s (again J S μ n) :=
  SLx.fin (S y) ⟨y, hJ, hn, rfl⟩ ht hh
/-- A loop begun. -/
theorem loopT_of {W : (TX → TS → Prop) → TS → Prop} {Q : TX → TS → Prop} {s : TS} (X : Type) (J : X → Prop) (S : X → TS) (μ : X → Nat) (x0 : X) (h0 : J x0) (ht : ∀ p ∈ (S x0).t, getT s.t p.1 = p.2) (hh : ∀ p ∈ (S x0).h, getH s.h p.1 = some p.2)
    (round : ∀ x, J x → W (thenT (fun s' => SLx s' (TL.again J S μ (μ x))) Q) (S x)) : loopT W Q s :=
  ⟨X, J, S, μ, SLx.fin (S x0) ⟨x0, h0, rfl⟩ ht hh, round⟩

/-- The nil slice as a slice of a block without memory. -/
theorem SLx.nil {s : TS} {S : TS → Prop} (t b k : Nat) (hk : k ≠ 0) (ht : getT s.t t = .v (.slice none 0 0)) (h : ∀ v, SLx ⟨(t, .sl b v 0 0) :: s.t, setH s.h b (v, ⟨k, []⟩)⟩ S) : SLx s S := fun e E w tmps H hT => by
  refine SLx.step (h (E.c + 1)) (H.le_slot b none) (H.nil b k hk) (fun n => ?_)
  simp only [getT]
  by_cases hn : n = t
  · subst hn
    rw [if_pos rfl]
    have := hT n
    rw [ht] at this
    simp only [RV] at this
    rw [this]
    exact nil_new H
  · rw [if_neg hn]; exact (hT n).mono (H.le_slot b none) _ _

/-- A value, a heap that say no less than one of S. -/
def VLx (r : TV) (h : Heap) (S : TV → Heap → Prop) : Prop := ∀ (e : Ent) (E : Env) (w : World) (v : Value), SatH e E h w → RV E r v → ∃ r' h' E', S r' h' ∧ E.Le E' ∧ SatH e E' h' w ∧ RV E' r' v
theorem VLx.done {r : TV} {h : Heap} {S : TV → Heap → Prop} (hS : S r h) : VLx r h S := fun _ E _ _ h1 h2 => ⟨r, h, E, hS, Env.Le.refl E, h1, h2⟩
theorem VLx.sub {r : TV} {h : Heap} {S : TV → Heap → Prop} (h' : Heap) (hh : ∀ p ∈ h', getH h p.1 = some p.2) (k : VLx r h' S) : VLx r h S := fun e E w v H hr =>
  let ⟨r', h'', E', a, b, c, d⟩ := k e _ w v (H.few hh) (hr.mono (E.le_few h') _ _)
  ⟨r', h'', E', a, (E.le_few h').trans b, c, d⟩

theorem callT.mono {f : Nat} {args : List TV} {s : TS} {K K' : TV → Heap → Prop} (h : callT P f args s K) (hk : ∀ r h, K r h → VLx r h K') : callT P f args s K' :=
  ⟨h.1, fun e E w vs H hl hv => (h.2 e E w vs H hl hv).mono fun en w1 ⟨v, r, h1, E1, hen, hQ, l1, H1, hr⟩ => by
    obtain ⟨r', h', E2, hk', l2, H2, hr2⟩ := hk r h1 hQ e E1 w1 v H1 hr
    exact ⟨v, r', h', E2, hen, hk', l1.trans l2, H2, hr2⟩⟩

/- A block that never changes any more. -/
def Env.frz (E : Env) (w : World) (b : Nat) : Env :=
  { I := fun r o => match E.ρ b with | some (_, some q) => if r = q.r then w.cell? ⟨r, o, none⟩ else E.I r o | _ => E.I r o
    ρ := fun x => if x = b then none else E.ρ x
    c := E.c }
theorem SatH.le_frz {h : Heap} (H : SatH e E h w) (b : Nat) : E.Le (E.frz w b) := by
  refine ⟨Nat.le_refl _, fun r o v hI => ?_, fun x ver R hx _ => ?_⟩
  · simp only [Env.frz]
    split
    · rename_i ver q hq
      split
      · exact H.imm r o v hI
      · exact hI
    · exact hI
  · simp only [Env.frz] at hx
    split at hx
    · cases hx
    · exact hx
theorem SatH.frz {h : Heap} (H : SatH e E h w) (b : Nat) : SatH e (E.frz w b) (delH h b) w := by
  have hle := H.le_frz b
  have hρ : ∀ x y, (E.frz w b).ρ x = some y → x ≠ b ∧ E.ρ x = some y := fun x y hx => by
    simp only [Env.frz] at hx
    split at hx
    · cases hx
    · exact ⟨‹_›, hx⟩
  refine ⟨fun r o v hI => ?_, fun x ver B hx => ?_, fun x hx => ?_, fun x ver R hx => H.vers x ver R (hρ _ _ hx).2, fun x ver q hx => ?_, fun x y ver ver' q q' hx hy => H.apart x y ver ver' q q' (hρ _ _ hx).2 (hρ _ _ hy).2, ?_⟩
  · simp only [Env.frz] at hI
    split at hI
    · split at hI
      · exact hI
      · exact H.imm r o v hI
    · exact H.imm r o v hI
  · rw [getH_delH] at hx
    split at hx
    · cases hx
    · obtain ⟨R, h1, h2⟩ := H.live x ver B hx
      exact ⟨R, by simp [Env.frz, *], h2.mono hle fun _ _ _ => ⟨rfl, rfl⟩⟩
  · rw [getH_delH] at hx
    simp only [Env.frz]
    split
    · rfl
    · rw [if_neg ‹_›] at hx; exact H.dead x hx
  · obtain ⟨hxb, hx'⟩ := hρ _ _ hx
    obtain ⟨k1, k2, k3⟩ := H.ownd x ver q hx'
    refine ⟨k1, fun o => ?_, k3⟩
    simp only [Env.frz]
    split
    · rename_i ver' q' hq'
      rw [if_neg (fun hr => hxb (H.apart _ _ _ _ _ _ hx' hq' hr))]
      exact k2 o
    · exact k2 o
  · refine ⟨H.gr.size, H.gr.frame, H.gr.os, H.gr.tape, H.gr.output, H.gr.le.trans hle, fun r o v hI => ?_⟩
    simp only [Env.frz] at hI
    split at hI
    · rename_i ver q hq
      split at hI
      · rename_i hr
        rcases (H.ownd _ _ _ hq).2.2 with k | k
        · exact .inr (.inl (hr ▸ k))
        · exact .inr (.inr (hr ▸ k))
      · exact H.gr.newI r o v hI
    · exact H.gr.newI r o v hI

mutual
def frzT (b ver : Nat) (B : Blk) : TV → TV
  | .sl b' v o n => if b' = b ∧ v = ver then .isl (if B.k = 0 then (if n = 0 then [] else B.cells.drop o) else (B.cells.drop o).take (n * B.k)) n else .sl b' v o n
  | .agg l => .agg (frzL b ver B l)
  | .tup l => .tup (frzL b ver B l)
  | .ifc t x => .ifc t (frzT b ver B x)
  | .opt g x => .opt g (frzT b ver B x)
  | .at b' v o => if b' = b ∧ v = ver then .iat (B.cells.drop o) else .at b' v o
  | .fn f c => .fn f c
  | .v x => .v x
  | .isl c n => .isl c n
  | .iat c => .iat c
  | .any => .any
def frzL (b ver : Nat) (B : Blk) : List TV → List TV
  | [] => []
  | x :: l => frzT b ver B x :: frzL b ver B l
end

mutual
theorem RV_frz {h : Heap} (H : SatH e E h w) {b ver : Nat} {B : Blk} (hb : getH h b = some (ver, B)) : ∀ (x : TV) (y : Value), RV E x y → RV (E.frz w b) (frzT b ver B x) y
  | .sl b' v o n, y, hx => by
    simp only [frzT]
    split
    · rename_i hc
      obtain ⟨rfl, rfl⟩ := hc
      obtain ⟨R, hR, hB⟩ := H.live b' v B hb
      simp only [RV] at hx ⊢
      obtain ⟨a, cap, rfl, h1, h2, h3, h4⟩ := hx
      rcases h4 R hR with ⟨rfl, rfl, rfl, rfl⟩ | ⟨q, a', rfl, rfl, h5, h6⟩
      · exact .inl ⟨rfl, by split <;> simp, rfl⟩
      · refine .inr ⟨a', cap, rfl, h1, ?_⟩
        rcases h5 with rfl | rfl
        · obtain rfl : n = 0 := by omega
          exact .inl (by split <;> simp)
        · rcases hB with ⟨k0, _, _⟩ | ⟨q', k1, _, _, _, k5⟩
          · cases k0
          cases k1
          by_cases hB0 : B.k = 0
          · rw [if_pos hB0]
            by_cases hn0 : n = 0
            · rw [if_pos hn0]; exact .inl rfl
            · rw [if_neg hn0]
              refine .inr ⟨rfl, RVl.mono (H.le_frz b') _ _ _ _ (fun j v' hv => ?_) (k5.drop o)⟩
              simp only [Env.frz, hR, if_true]
              exact hv
          · rw [if_neg hB0]
            refine .inr ⟨rfl, RVl.mono (H.le_frz b') _ _ _ _ (fun j v' hv => ?_) ((k5.drop o).take (n * B.k))⟩
            simp only [Env.frz, hR, if_true]
            exact hv
    · exact RV.mono (H.le_frz b) _ _ hx
  | .agg l, _, hx => by
    simp only [frzT, RV] at hx ⊢
    obtain ⟨zs, h1, h2, h3⟩ := hx
    obtain ⟨k1, k2⟩ := RVl_frz H hb l _ _ h3
    exact ⟨zs, h1, by rw [k1]; exact h2, k2⟩
  | .tup l, _, hx => by
    simp only [frzT, RV] at hx ⊢
    obtain ⟨zs, h1, h2, h3⟩ := hx
    obtain ⟨k1, k2⟩ := RVl_frz H hb l _ _ h3
    exact ⟨zs, h1, by rw [k1]; exact h2, k2⟩
  | .ifc _ x, _, hx => by
    simp only [frzT, RV] at hx ⊢
    obtain ⟨z, h1, h2⟩ := hx
    exact ⟨z, h1, RV_frz H hb x z h2⟩
  | .opt _ x, y, hx => by
    simp only [frzT, RV] at hx ⊢
    exact ⟨fun hg => RV_frz H hb x y (hx.1 hg), hx.2⟩
  | .at b' v o, y, hx => by
    simp only [frzT]
    split
    · rename_i hc
      obtain ⟨rfl, rfl⟩ := hc
      obtain ⟨R, hR, hB⟩ := H.live b' v B hb
      simp only [RV] at hx ⊢
      obtain ⟨p, rfl, h1, h2⟩ := hx
      obtain ⟨q, rfl, rfl⟩ := h2 R hR
      rcases hB with ⟨k0, _, _⟩ | ⟨q', k1, _, _, _, k5⟩
      · cases k0
      cases k1
      refine ⟨_, rfl, rfl, RVl.mono (H.le_frz b') _ _ _ _ (fun j v' hv => ?_) (k5.drop o)⟩
      simp only [Env.frz, hR, if_true]
      exact hv
    · exact RV.mono (H.le_frz b) _ _ hx
  | .fn _ _, y, hx => by simp only [frzT]; exact RV.mono (H.le_frz b) _ _ hx
  | .v _, y, hx => by simp only [frzT]; exact RV.mono (H.le_frz b) _ _ hx
  | .isl _ _, y, hx => by simp only [frzT]; exact RV.mono (H.le_frz b) _ _ hx
  | .iat _, y, hx => by simp only [frzT]; exact RV.mono (H.le_frz b) _ _ hx
  | .any, y, hx => by simp only [frzT, RV]
theorem RVl_frz {h : Heap} (H : SatH e E h w) {b ver : Nat} {B : Blk} (hb : getH h b = some (ver, B)) : ∀ (l : List TV) (f : Nat → Option Value) (o : Nat), RVl E l f o → (frzL b ver B l).length = l.length ∧ RVl (E.frz w b) (frzL b ver B l) f o
  | [], _, _, _ => by simp only [frzL, RVl, and_self]
  | x :: l, f, o, hx => by
    simp only [frzL, RVl] at hx ⊢
    obtain ⟨⟨v, h1, h2⟩, h3⟩ := hx
    obtain ⟨k1, k2⟩ := RVl_frz H hb l f (o + 1) h3
    exact ⟨by simp [k1], ⟨v, h1, RV_frz H hb x v h2⟩, k2⟩
end

/-- A BLOCK NEVER CHANGES ANY MORE: what named its slices reads it for good. -/
theorem VLx.frz {r : TV} {h : Heap} {S : TV → Heap → Prop} (b : Nat) {ver : Nat} {B : Blk} (hb : getH h b = some (ver, B)) (k : VLx (frzT b ver B r) (delH h b) S) : VLx r h S := fun e E w v H hr =>
  let ⟨r', h'', E', a, l, c, d⟩ := k e _ w v (H.frz b) (RV_frz H hb r v hr)
  ⟨r', h'', E', a, (H.le_frz b).trans l, c, d⟩
theorem SLx.frz {s : TS} {S : TS → Prop} (b : Nat) {ver : Nat} {B : Blk} (hb : getH s.h b = some (ver, B)) (k : SLx ⟨s.t.map fun p => (p.1, frzT b ver B p.2), delH s.h b⟩ S) : SLx s S := fun e E w tmps H hT => by
  refine SLx.step k (H.le_frz b) (H.frz b) (fun n => ?_)
  have : getT (s.t.map fun p => (p.1, frzT b ver B p.2)) n = frzT b ver B (getT s.t n) := by
    induction s.t with
    | nil => simp [getT, frzT]
    | cons p l ih =>
      obtain ⟨k, x⟩ := p
      simp only [List.map_cons, getT]
      by_cases hn : n = k
      · rw [if_pos hn, if_pos hn]
      · rw [if_neg hn, if_neg hn]; exact ih
  rw [this]
  exact RV_frz H hb _ _ (hT n)

end
end Go.Proofs.YtekmhdiajjfgfaaDoor.TL
