/- Records: read of bytes. -/
/- Records: their bytes. -/
/- Records: as a text, of a text. -/
/- The laws' Same: of batches; of records. -/
/- Records: may they be; who plays. -/
/- The law's Fit: a record that may be. -/
import Derived.Test.YtnkdkajllmopaaaGreatUOrd
import Derived.Test.YtnkdkajllmopaaaGreatURos
import Derived.Test.YtnkdkajllmopaaaGreatTD
namespace Go.Proofs.YtnkdkajllmopaaaGreat.TL
open Go
set_option linter.unusedVariables false
set_option linter.unusedSimpArgs false

/-- A play of a player; a record. -/
structure Ply where
  p : Int
  b : List Ord
def Ply.cells (c : Ply) : List TV := [i64c c.p, .isl (rowC c.b) c.b.length]
def rowP (l : List Ply) : List TV := (l.map Ply.cells).flatten
@[simp] theorem rowP_nil : rowP [] = [] := rfl
@[simp] theorem rowP_cons (o : Ply) (l : List Ply) : rowP (o :: l) = o.cells ++ rowP l := rfl
@[simp] theorem rowP_length : ∀ l : List Ply, (rowP l).length = l.length * 2
  | [] => rfl
  | o :: l => by rw [rowP_cons, List.length_append, rowP_length l, List.length_cons, show o.cells.length = 2 from rfl]; omega
@[simp] theorem rowP_CloL : ∀ l : List Ply, CloL (rowP l)
  | [] => trivial
  | o :: l => ⟨trivial, ⟨rowC_CloL o.b, rowP_CloL l⟩⟩
theorem rowP_drop : ∀ (n : Nat) (l : List Ply), (rowP l).drop (n * 2) = rowP (l.drop n)
  | 0, l => by simp
  | n + 1, [] => by simp [rowP]
  | n + 1, c :: l => by
    rw [show (n + 1) * 2 = n * 2 + 2 by omega]
    have := rowP_drop n l
    simpa [rowP, Ply.cells] using this
theorem rowP_at {l : List Ply} {k : Nat} (h : k < l.length) : List.drop (k * 2) (rowP l) = i64c l[k].p :: .isl (rowC l[k].b) l[k].b.length :: rowP (l.drop (k + 1)) := by
  rw [rowP_drop, List.drop_eq_getElem_cons h]
  rfl
theorem rowP_snoc (l : List Ply) (c : Ply) : rowP (l ++ [c]) = rowP l ++ c.cells := by simp [rowP]
theorem rowP_tk (l : List Ply) : List.take (l.length * 2) (rowP l) = rowP l := List.take_of_length_le (by simp)
theorem rowG_tk (l : List Chg) : List.take (l.length * 3) (rowG l) = rowG l := List.take_of_length_le (by simp)
structure Rec where
  t : Int
  c : List Chg
  pt : Int
  pd : Int
  l : List Ply
def Rec.cells (r : Rec) : List TV := [i64c r.t, .isl (rowG r.c) r.c.length, i64c r.pt, i64c r.pd, .isl (rowP r.l) r.l.length]

def In.chgs : Nat → In → List Chg → In × List Chg
  | 0, i, l => (i, l)
  | n + 1, i, l => if i.e ≠ 0 then (i, l) else In.chgs n i.chg.1 (l ++ [i.chg.2])
def In.ply (i : In) : In × Ply := ((i.count 31).1.batch.1, ⟨(i.count 31).2, (i.count 31).1.batch.2⟩)
def In.plys : Nat → In → List Ply → In × List Ply
  | 0, i, l => (i, l)
  | n + 1, i, l => if i.e ≠ 0 then (i, l) else In.plys n i.ply.1 (l ++ [i.ply.2])
def In.rcd (i : In) : In × Rec :=
  let t := i.count 1099511627776
  let n := t.1.count 8
  let c := In.chgs n.2.toNat n.1 []
  let pt := c.1.count 64
  let pd := pt.1.count 6
  let m := pd.1.count 32
  let l := In.plys m.2.toNat m.1 []
  if l.1.e ≠ 0 then (l.1, ⟨0, [], 0, 0, []⟩) else (l.1, ⟨t.2, c.2, pt.2, pd.2, l.2⟩)

theorem VLx.nilR {h : Heap} {S : TV → Heap → Prop} {a c d : TV} (k : VLx (.agg [a, .isl [] 0, c, d, .isl [] 0]) h S) : VLx (.agg [a, .v (.slice none 0 0), c, d, .v (.slice none 0 0)]) h S := fun e E w v H hv => by
  refine k e E w v H ?_
  simp only [RV, RVl] at hv ⊢
  obtain ⟨cs, h1, h2, ⟨y0, g0, k0⟩, ⟨y1, g1, k1⟩, ⟨y2, g2, k2⟩, ⟨y3, g3, k3⟩, ⟨y4, g4, k4⟩, h3⟩ := hv
  exact ⟨cs, h1, h2, ⟨y0, g0, k0⟩, ⟨y1, g1, .inl ⟨trivial, trivial, k1⟩⟩, ⟨y2, g2, k2⟩, ⟨y3, g3, k3⟩, ⟨y4, g4, .inl ⟨trivial, trivial, k4⟩⟩, h3⟩

theorem In.count_err {i : In} (h : i.e ≠ 0) (m : Int) : i.count m = (i, 0) := by
  have hn : i.num = (i, 0) := by unfold In.num; rw [if_pos h]
  unfold In.count
  rw [hn]
  have : ¬ max m 0 < (((0 : Nat) : Int)) := by omega
  simp only
  rw [if_neg this]
  rfl
end Go.Proofs.YtnkdkajllmopaaaGreat.TL
namespace Go.Proofs.YtnkdkajllmopaaaGreat.TL
open Go
set_option linter.unusedVariables false
set_option linter.unusedSimpArgs false

def chgB (l : List Chg) : List UInt8 := (l.map Chg.bytes).flatten
def Ply.bytes (p : Ply) : List UInt8 := nb p.p.toNat ++ batchB p.b
def plyB (l : List Ply) : List UInt8 := (l.map Ply.bytes).flatten
def Rec.bytes (r : Rec) : List UInt8 := nb r.t.toNat ++ (nb r.c.length ++ (chgB r.c ++ (nb r.pt.toNat ++ (nb r.pd.toNat ++ (nb r.l.length ++ plyB r.l)))))
theorem chgB_snoc (l : List Chg) (c : Chg) : chgB (l ++ [c]) = chgB l ++ c.bytes := by simp [chgB]
theorem plyB_snoc (l : List Ply) (c : Ply) : plyB (l ++ [c]) = plyB l ++ c.bytes := by simp [plyB]
theorem chg_len {c : Chg} (h : c.small) : c.bytes.length ≤ 30 + 10 * c.v.length := by
  obtain ⟨h1, h2, h3, h4⟩ := h
  have e1 := nbs_len (l := [c.k, c.p, (c.v.length : Int)].map Int.toNat) (by simp; omega)
  have e2 := nbs_len (l := c.v.map Int.toNat) fun m hm => by
    obtain ⟨y, hy, rfl⟩ := List.mem_map.1 hm
    have := h3 y hy
    omega
  simp only [Chg.bytes, List.length_append]
  simp at e1 e2
  simp
  omega
theorem chgB_len : ∀ {l : List Chg}, (∀ c ∈ l, c.small) → (chgB l).length ≤ 20000 * l.length
  | [], _ => by simp [chgB]
  | c :: l, h => by
    have h1 := chg_len (h c List.mem_cons_self)
    have h3 := (h c List.mem_cons_self).l
    have h2 := chgB_len (l := l) fun m hm => h m (List.mem_cons_of_mem _ hm)
    simp only [chgB, List.map_cons, List.flatten_cons, List.length_append, List.length_cons] at h2 ⊢
    omega
structure Ply.ok (q : Ply) : Prop where
  p : q.p < 2 ^ 63
  b : ∀ o ∈ q.b, o.ok
  l : q.b.length ≤ 1000
theorem ply_len {p : Ply} (h : p.ok) : p.bytes.length ≤ 20 + 40 * p.b.length := by
  have e1 := nb_len10 (n := p.p.toNat) (by have := h.p; omega)
  have e2 := nb_len10 (n := p.b.length) (by have := h.l; omega)
  have e3 := obs_len h.b
  simp only [Ply.bytes, batchB, List.length_append]
  omega
theorem plyB_len : ∀ {l : List Ply}, (∀ c ∈ l, c.ok) → (plyB l).length ≤ 50000 * l.length
  | [], _ => by simp [plyB]
  | c :: l, h => by
    have h1 := ply_len (h c List.mem_cons_self)
    have h3 := (h c List.mem_cons_self).l
    have h2 := plyB_len (l := l) fun m hm => h m (List.mem_cons_of_mem _ hm)
    simp only [plyB, List.map_cons, List.flatten_cons, List.length_append, List.length_cons] at h2 ⊢
    omega
structure Rec.ok (r : Rec) : Prop where
  t : r.t < 2 ^ 63
  pt : r.pt < 2 ^ 63
  pd : r.pd < 2 ^ 63
  c : ∀ c ∈ r.c, c.small
  cl : r.c.length ≤ 40
  l : ∀ c ∈ r.l, c.ok
  ll : r.l.length ≤ 40

end Go.Proofs.YtnkdkajllmopaaaGreat.TL
namespace Go.Proofs.YtnkdkajllmopaaaGreat.TL
open Go
set_option linter.unusedVariables false
set_option linter.unusedSimpArgs false

theorem VLx.nilTR {h : Heap} {S : TV → Heap → Prop} {a c d z : TV} (k : VLx (.tup [.agg [a, .isl [] 0, c, d, .isl [] 0], z]) h S) : VLx (.tup [.agg [a, .v (.slice none 0 0), c, d, .v (.slice none 0 0)], z]) h S := fun e E w v H hv => by
  refine k e E w v H ?_
  simp only [RV, RVl] at hv ⊢
  obtain ⟨zs, e1, e2, ⟨x0, x1, cs, h1, h2, ⟨y0, g0, k0⟩, ⟨y1, g1, k1⟩, ⟨y2, g2, k2⟩, ⟨y3, g3, k3⟩, ⟨y4, g4, k4⟩, h3⟩, e3⟩ := hv
  exact ⟨zs, e1, e2, ⟨x0, x1, cs, h1, h2, ⟨y0, g0, k0⟩, ⟨y1, g1, .inl ⟨trivial, trivial, k1⟩⟩, ⟨y2, g2, k2⟩, ⟨y3, g3, k3⟩, ⟨y4, g4, .inl ⟨trivial, trivial, k4⟩⟩, h3⟩, e3⟩

abbrev rec0 : Rec := ⟨0, [], 0, 0, []⟩
def rcParse (l : List UInt8) : Rec × Int :=
  let p := (In.mk l 0).rcd
  if p.1.fin.e ≠ 0 then (rec0, p.1.fin.e) else (p.2, 0)
end Go.Proofs.YtnkdkajllmopaaaGreat.TL
namespace Go.Proofs.YtnkdkajllmopaaaGreat.TL
open Go
set_option linter.unusedVariables false
set_option linter.unusedSimpArgs false

noncomputable instance : DecidableEq Ord := fun _ _ => Classical.propDecidable _
noncomputable instance : DecidableEq Chg := fun _ _ => Classical.propDecidable _
noncomputable instance : DecidableEq Ply := fun _ _ => Classical.propDecidable _
noncomputable instance : DecidableEq Rec := fun _ _ => Classical.propDecidable _
theorem ord_ext {a b : Ord} (h1 : a.k = b.k) (h2 : a.u = b.u) (h3 : a.a = b.a) (h4 : a.b = b.b) : a = b := by cases a; cases b; simp_all
theorem chg_ext {a b : Chg} (h1 : a.k = b.k) (h2 : a.p = b.p) (h3 : a.v = b.v) : a = b := by cases a; cases b; simp_all
theorem ply_ext {a b : Ply} (h1 : a.p = b.p) (h2 : a.b = b.b) : a = b := by cases a; cases b; simp_all
end Go.Proofs.YtnkdkajllmopaaaGreat.TL
namespace Go.Proofs.YtnkdkajllmopaaaGreat.TL
open Go
set_option linter.unusedVariables false
set_option linter.unusedSimpArgs false

theorem rowP_get {l : List Ply} {i : Nat} (h : i < l.length) : (l[i]?.getD ⟨0, []⟩) = l[i] := by simp [h]
def plyAt (l : List Ply) (i : Nat) : Ply := l[i]?.getD ⟨0, []⟩
/-- What the i-th play is refused for. -/
def plyChk (l : List Ply) (i : Nat) : Int :=
  if (plyAt l i).p < 0 ∨ 32 ≤ (plyAt l i).p then 13
  else if 0 < i ∧ (plyAt l i).p ≤ (plyAt l (i - 1)).p then 12
  else batchChk (plyAt l i).b
def wgo (l : List Ply) : Nat → Nat → Int
  | 0, _ => 0
  | n + 1, i => if plyChk l i ≠ 0 then plyChk l i else wgo l n (i + 1)
def wchk (l : List Ply) : Int := wgo l l.length 0

set_option maxHeartbeats 4000000 in
set_option maxRecDepth 100000 in
theorem WChk_T (l : List Ply) (hl : l.length ≤ 1000000) (hb : ∀ p ∈ l, p.b.length ≤ 1000000) : callT Tryz.prog 65 [.isl (rowP l) l.length] ⟨[], []⟩ (fun x h => x = i64c (wchk l) ∧ h = []) := by
  refine callT_of_body [0, 2, 3, 4, 5, 6, 7, 8, 9, 13, 22, 40] [] Tryz.func65 rfl (by decide) (by kernel_rfl) rfl ?_
  simp
  refine loopT_of (Nat × Nat) (fun x => x.1 ≤ l.length ∧ wgo l (l.length - x.1) x.1 = wchk l) (fun x => ⟨[(0, .isl (rowP l) l.length), (6, .isl (rowP l) l.length), (7, .v (.int .i64 l.length)), (8, .v (.int .i64 x.1))], []⟩) (fun x => l.length - x.1) (0, 0) ⟨by simp, rfl⟩ (by simp) (by simp) ?_
  rintro ⟨k, z⟩ ⟨hk, hgo⟩
  simp only at hk hgo ⊢
  by_cases h1 : k < l.length
  · have hat := rowP_at h1
    have hpk : plyAt l k = l[k] := by simp [plyAt, h1]
    have hbk := hb l[k] (List.getElem_mem h1)
    have e1 : IntKind.i64.wrap ((k : Int) + 1) = ((k + 1 : Nat) : Int) := by rw [i64_id (by omega) (by omega)]; rfl
    rw [show l.length - k = l.length - (k + 1) + 1 by omega, wgo] at hgo
    by_cases p1 : l[k].p < 0
    · have hc : plyChk l k = 13 := by simp [plyChk, hpk, p1]
      rw [hc] at hgo
      simp at hgo
      simp [h1, hat, i64c, p1, ← hgo]
    by_cases p2 : 32 ≤ l[k].p
    · have hc : plyChk l k = 13 := by simp [plyChk, hpk, p2]
      rw [hc] at hgo
      simp at hgo
      simp [h1, hat, i64c, p1, p2, ← hgo]
    by_cases k0 : k = 0
    · subst k0
      have hc : plyChk l 0 = batchChk l[0].b := by simp [plyChk, hpk, p1, p2]
      rw [hc] at hgo
      simp [h1, hat, i64c, p1, p2]
      intro v4
      refine draw_g [0, 1, 2, 3, 4, 5, 6, 7, 8, 9, 10] 11 [] (by kernel_rfl) (by kernel_rfl) (by kernel_rfl) ?_
      simp
      refine callT_eq [] (BCheck_T l[0].b hbk) ?_
      by_cases hz : batchChk l[0].b = 0
      · simp [hz] at hgo
        simp [hz, i64c]
        exact SLx.again (1, 0) ⟨by simp only; omega, by simp only; rw [← hgo]⟩ (by simp only; omega) (by simp [show IntKind.i64.wrap 1 = 1 by decide]) (by simp)
      · simp [hz] at hgo
        simp [hz, i64c]
        exact hgo
    · have h2 : k - 1 < l.length := by omega
      have hat2 := rowP_at h2
      have hpk2 : plyAt l (k - 1) = l[k - 1] := by simp [plyAt, h2]
      have k0' : 0 < k := by omega
      have e2 : IntKind.i64.wrap ((k : Int) - 1) = ((k - 1 : Nat) : Int) := by rw [i64_id (by omega) (by omega)]; omega
      by_cases p3 : l[k].p ≤ l[k - 1].p
      · have hc : plyChk l k = 12 := by simp [plyChk, hpk, hpk2, p1, p2, p3, k0']
        rw [hc] at hgo
        simp at hgo
        simp [h1, hat, i64c, p1, p2]
        intro v4
        refine draw_g [0, 1, 2, 3, 4, 5, 6, 7, 8, 9, 10] 11 [] (by kernel_rfl) (by kernel_rfl) (by kernel_rfl) ?_
        simp [k0', e2, h2, hat2, i64c, p3, ← hgo]
      · have hc : plyChk l k = batchChk l[k].b := by simp [plyChk, hpk, hpk2, p1, p2, p3]
        rw [hc] at hgo
        simp [h1, hat, i64c, p1, p2]
        intro v4
        refine draw_g [0, 1, 2, 3, 4, 5, 6, 7, 8, 9, 10] 11 [] (by kernel_rfl) (by kernel_rfl) (by kernel_rfl) ?_
        simp [k0', e2, h2, hat2, i64c, p3]
        refine callT_eq [] (BCheck_T l[k].b hbk) ?_
        by_cases hz : batchChk l[k].b = 0
        · simp [hz] at hgo
          simp [hz, i64c]
          exact SLx.again (k + 1, 0) ⟨by simp only; omega, by simp only; rw [← hgo]⟩ (by simp only; omega) (by simp [e1]) (by simp)
        · simp [hz] at hgo
          simp [hz, i64c]
          exact hgo
  · have : k = l.length := by omega
    subst this
    simp [wgo] at hgo
    simp [i64c, ← hgo]

def Rec.ros (r : Rec) (was : Ros) : Ros × Int := if 8 < r.c.length then (was, 8) else was.goW was r.c
set_option maxHeartbeats 1000000 in
set_option maxRecDepth 100000 in
theorem RcRos_T (r : Rec) (w : Ros) (hs : w.s < 2 ^ 32) (hv : ∀ c ∈ r.c, c.v.length ≤ 1000000) (hl : r.c.length ≤ 1000000) (he : 0 ≤ w.e) (he2 : w.e ≤ 9223372036853775807) : callT Tryz.prog 40 [.agg r.cells, .agg w.cells] ⟨[], []⟩ (fun x h => x = .tup [.agg (r.ros w).1.cells, i64c (r.ros w).2] ∧ h = []) := by
  refine callT_of_body [0, 1, 2, 3, 4, 5, 9] [] Tryz.func40 rfl (by decide) (by kernel_rfl) rfl ?_
  by_cases h8 : 8 < r.c.length
  · have h8' : (8 : Int) < r.c.length := by omega
    simp [Rec.cells, Ros.cells, u32v, i64c, h8, h8', Rec.ros]
  · have h8' : ¬ (8 : Int) < r.c.length := by omega
    simp [Rec.cells, Ros.cells, u32v, i64c, h8, h8', Rec.ros]
    intro v2 v3 v4
    refine callT_eq [] (RWith_T w r.c hs hl hv he he2) ?_
    simp [Ros.cells, u32v, i64c]

def pchk (t d : Int) : Int := if t < 1 ∨ 64 < t ∨ d < 1 ∨ 6 < d then 4 else 0
set_option maxHeartbeats 1000000 in
set_option maxRecDepth 100000 in
theorem PcChk_T (t d : Int) : callT Tryz.prog 35 [.agg [i64c t, i64c d]] ⟨[], []⟩ (fun x h => x = i64c (pchk t d) ∧ h = []) := by
  refine callT_of_body [0, 1, 2, 20] [] Tryz.func35 rfl (by decide) (by kernel_rfl) rfl ?_
  by_cases h1 : t < 1
  · simp [i64c, h1, pchk]
  by_cases h2 : 64 < t
  · simp [i64c, h1, h2, pchk]
  by_cases h3 : d < 1
  · simp [i64c, h1, h2, h3, pchk]
  by_cases h4 : 6 < d
  · simp [i64c, h1, h2, h3, h4, pchk]
  · simp [i64c, h1, h2, h3, h4, pchk]

def pls (l : List Ply) : List Int := l.map Ply.p
@[simp] theorem pls_length (l : List Ply) : (pls l).length = l.length := by simp [pls]
@[simp] theorem pls_nil : pls [] = [] := rfl
theorem pls_snoc (l : List Ply) (p : Ply) : pls (l ++ [p]) = pls l ++ [p.p] := by simp [pls]
def Rec.chk (r : Rec) (next : Int) (was : Ros) : Int :=
  if r.t ≠ next then 12
  else if (r.pt ≠ 0 ∨ r.pd ≠ 0) ∧ pchk r.pt r.pd ≠ 0 then pchk r.pt r.pd
  else if (r.ros was).2 ≠ 0 then (r.ros was).2
  else if pls r.l ≠ (r.ros was).1.all 32 then 13
  else wchk r.l
theorem ros_lt {r : Rec} {w : Ros} (hs : w.s < 2 ^ 32) : (r.ros w).1.s < 2 ^ 32 := by
  unfold Rec.ros
  split
  · exact hs
  · have key : ∀ (l : List Chg) (x : Ros), x.s < 2 ^ 32 → (w.goW x l).1.s < 2 ^ 32 := fun l => by
      induction l with
      | nil => intro x h; exact h
      | cons c l ih =>
        intro x h
        unfold Ros.goW
        split
        · exact hs
        · rename_i hc
          exact ih _ (app_lt h (by simpa using hc))
    exact key r.c w hs

set_option maxHeartbeats 4000000 in
set_option maxRecDepth 100000 in
theorem RcChk_T (r : Rec) (n : Int) (w : Ros) (hs : w.s < 2 ^ 32) (hv : ∀ c ∈ r.c, c.v.length ≤ 1000000) (hl : r.c.length ≤ 1000000) (he : 0 ≤ w.e) (he2 : w.e ≤ 9223372036853775807) (hpl : r.l.length ≤ 1000000) (hpb : ∀ p ∈ r.l, p.b.length ≤ 1000000) :
    callT Tryz.prog 39 [.agg r.cells, i64c n, .agg w.cells] ⟨[], []⟩ (fun x h => x = i64c (r.chk n w) ∧ h = []) := by
  refine callT_of_body [0, 1, 2, 3, 5, 6, 7, 8, 9, 10, 12, 16, 20, 25, 34, 37, 38, 39, 40, 53] [] Tryz.func39 rfl (by decide) (by kernel_rfl) rfl ?_
  obtain ⟨rt, rc, rpt, rpd, rl⟩ := r
  simp only at hv hl hpl hpb
  by_cases ht : rt = n
  case neg =>
    simp [Rec.cells, Ros.cells, u32v, i64c, ht, Rec.chk]
  subst ht
  by_cases hz : rpt = 0 ∧ rpd = 0
  · obtain ⟨rfl, rfl⟩ := hz
    simp [Rec.cells, Ros.cells, u32v, i64c]
    intro v3 v5
    have hgl := ros_lt (r := (Rec.mk rt rc 0 0 rl)) hs
    have hros := RcRos_T (Rec.mk rt rc 0 0 rl) w hs hv hl he he2
    have hchk : (Rec.mk rt rc 0 0 rl).chk rt w = if ((Rec.mk rt rc 0 0 rl).ros w).2 ≠ 0 then ((Rec.mk rt rc 0 0 rl).ros w).2 else if pls rl ≠ ((Rec.mk rt rc 0 0 rl).ros w).1.all 32 then 13 else wchk rl := by
      simp only [Rec.chk]
      rw [if_neg (by simp), if_neg (by simp)]
    refine callT_eq [] hros ?_
    rw [hchk]
    generalize (Rec.mk rt rc 0 0 rl).ros w = G at hgl
    obtain ⟨R, e⟩ := G
    simp only at hgl
    by_cases h0 : e = 0
    case neg =>
      simp [Rec.cells, Ros.cells, u32v, i64c, h0]
    simp [Rec.cells, Ros.cells, u32v, i64c, h0]
    intro v8
    refine ⟨Nat × Nat, fun x => x.1 ≤ rl.length, fun x => ⟨[(3, .at 3 v3 0), (8, .at 8 v8 0), (10, .sl 1001 x.2 0 x.1), (37, .isl (rowP rl) rl.length), (38, .v (.int .i64 rl.length)), (39, .v (.int .i64 x.1))], [(3, v3, ⟨0, (Rec.mk rt rc 0 0 rl).cells⟩), (8, v8, ⟨0, R.cells⟩), (1001, x.2, ⟨1, (pls (rl.take x.1)).map i64c⟩)]⟩, fun x => rl.length - x.1, ?_, ?_⟩
    · refine SLx.nil 10 1001 1 (by decide) (by simp) fun u => SLx.fin _ ⟨(0, u), by simp, rfl⟩ (by simp) (by simp [Rec.cells, Ros.cells, u32v, i64c])
    rintro ⟨k, u⟩ hk
    simp only at hk ⊢
    by_cases g : k < rl.length
    · have hat := rowP_at g
      have e1 : IntKind.i64.wrap ((k : Int) + 1) = ((k + 1 : Nat) : Int) := by rw [i64_id (by omega) (by omega)]; rfl
      have hsn : (pls (rl.take (k + 1))).map i64c = (pls (rl.take k)).map i64c ++ [i64c rl[k].p] := by rw [List.take_succ_eq_append_getElem g, pls_snoc, List.map_append]; rfl
      have hlk : ((pls (rl.take k)).map i64c).length = k := by simp; omega
      generalize (pls (rl.take k)).map i64c = P at hsn hlk ⊢
      have htk : List.take k P = P := List.take_of_length_le (by omega)
      have hdr : List.drop (k + 1) P = [] := List.drop_of_length_le (by omega)
      simp [g, hat, i64c]
      refine fun v12 v46 => ⟨by omega, by omega, by omega, fun u2 => ?_⟩
      exact SLx.again (k + 1, u2) (by simp only; omega) (by simp only; omega) (by simp [e1]) (by simp [hsn, htk, hdr, i64c])
    · have : k = rl.length := by omega
      subst this
      rw [List.take_length]
      simp [Ros.cells, u32v, i64c]
      refine callT_eq [] (RAll_T R hgl) ?_
      simp [Ros.cells, u32v, i64c]
      have hEq := Equal_T (pls rl) (R.all 32) (by simp; omega)
      refine callT.pre (fn_of hEq) (CLx.frz 1001 rfl (CLx.done ?_))
      simp
      have htk2 : List.take rl.length ((pls rl).map i64c) = (pls rl).map i64c := List.take_of_length_le (by simp)
      simp [htk2]
      refine callT_eq [] hEq ?_
      simp [Rec.cells, i64c]
      by_cases q : pls rl = R.all 32
      · simp [q]
        refine callT_eq [] (WChk_T rl hpl hpb) ?_
        simp [i64c]
      · simp [q]
  · have hz2 : ¬ rpt = 0 ∨ ¬ rpd = 0 := by omega
    have hz3 : rpt = 0 → ¬ rpd = 0 := by omega
    have hz4 : (!decide (rpt = 0) || !decide (rpd = 0)) = true := by simpa using hz2
    simp [Rec.cells, Ros.cells, u32v, i64c, hz2, hz3, hz4]
    intro v3 v5
    refine callT_eq [] (PcChk_T rpt rpd) ?_
    by_cases hpc : pchk rpt rpd = 0
    case neg =>
      simp [Rec.cells, Ros.cells, u32v, i64c, hpc, Rec.chk, hz2]
    simp [i64c, hpc]
    have hgl := ros_lt (r := (Rec.mk rt rc rpt rpd rl)) hs
    have hros := RcRos_T (Rec.mk rt rc rpt rpd rl) w hs hv hl he he2
    have hchk : (Rec.mk rt rc rpt rpd rl).chk rt w = if ((Rec.mk rt rc rpt rpd rl).ros w).2 ≠ 0 then ((Rec.mk rt rc rpt rpd rl).ros w).2 else if pls rl ≠ ((Rec.mk rt rc rpt rpd rl).ros w).1.all 32 then 13 else wchk rl := by
      simp only [Rec.chk]
      rw [if_neg (by simp), if_neg (by simp [hpc])]
    refine callT_eq [] hros ?_
    rw [hchk]
    generalize (Rec.mk rt rc rpt rpd rl).ros w = G at hgl
    obtain ⟨R, e⟩ := G
    simp only at hgl
    by_cases h0 : e = 0
    case neg =>
      simp [Rec.cells, Ros.cells, u32v, i64c, h0]
    simp [Rec.cells, Ros.cells, u32v, i64c, h0]
    intro v8
    refine ⟨Nat × Nat, fun x => x.1 ≤ rl.length, fun x => ⟨[(3, .at 3 v3 0), (8, .at 8 v8 0), (10, .sl 1001 x.2 0 x.1), (37, .isl (rowP rl) rl.length), (38, .v (.int .i64 rl.length)), (39, .v (.int .i64 x.1))], [(3, v3, ⟨0, (Rec.mk rt rc rpt rpd rl).cells⟩), (8, v8, ⟨0, R.cells⟩), (1001, x.2, ⟨1, (pls (rl.take x.1)).map i64c⟩)]⟩, fun x => rl.length - x.1, ?_, ?_⟩
    · refine SLx.nil 10 1001 1 (by decide) (by simp) fun u => SLx.fin _ ⟨(0, u), by simp, rfl⟩ (by simp) (by simp [Rec.cells, Ros.cells, u32v, i64c])
    rintro ⟨k, u⟩ hk
    simp only at hk ⊢
    by_cases g : k < rl.length
    · have hat := rowP_at g
      have e1 : IntKind.i64.wrap ((k : Int) + 1) = ((k + 1 : Nat) : Int) := by rw [i64_id (by omega) (by omega)]; rfl
      have hsn : (pls (rl.take (k + 1))).map i64c = (pls (rl.take k)).map i64c ++ [i64c rl[k].p] := by rw [List.take_succ_eq_append_getElem g, pls_snoc, List.map_append]; rfl
      have hlk : ((pls (rl.take k)).map i64c).length = k := by simp; omega
      generalize (pls (rl.take k)).map i64c = P at hsn hlk ⊢
      have htk : List.take k P = P := List.take_of_length_le (by omega)
      have hdr : List.drop (k + 1) P = [] := List.drop_of_length_le (by omega)
      simp [g, hat, i64c]
      refine fun v12 v46 => ⟨by omega, by omega, by omega, fun u2 => ?_⟩
      exact SLx.again (k + 1, u2) (by simp only; omega) (by simp only; omega) (by simp [e1]) (by simp [hsn, htk, hdr, i64c])
    · have : k = rl.length := by omega
      subst this
      rw [List.take_length]
      simp [Ros.cells, u32v, i64c]
      refine callT_eq [] (RAll_T R hgl) ?_
      simp [Ros.cells, u32v, i64c]
      have hEq := Equal_T (pls rl) (R.all 32) (by simp; omega)
      refine callT.pre (fn_of hEq) (CLx.frz 1001 rfl (CLx.done ?_))
      simp
      have htk2 : List.take rl.length ((pls rl).map i64c) = (pls rl).map i64c := List.take_of_length_le (by simp)
      simp [htk2]
      refine callT_eq [] hEq ?_
      simp [Rec.cells, i64c]
      by_cases q : pls rl = R.all 32
      · simp [q]
        refine callT_eq [] (WChk_T rl hpl hpb) ?_
        simp [i64c]
      · simp [q]
end Go.Proofs.YtnkdkajllmopaaaGreat.TL
namespace Go.Proofs.YtnkdkajllmopaaaGreat.TL
open Go
set_option linter.unusedVariables false
set_option linter.unusedSimpArgs false

@[simp] theorem nzL_append (a b : List TV) : nzL (a ++ b) = nzL a ++ nzL b := by
  induction a with
  | nil => rfl
  | cons x l ih => simp [ih]
@[simp] theorem nzL_rowC (l : List Ord) : nzL (rowC l) = rowC l := by
  induction l with
  | nil => rfl
  | cons o l ih => simp [Ord.cells, i64c, ih]
@[simp] theorem nzL_rowG (l : List Chg) : nzL (rowG l) = rowG l := by
  induction l with
  | nil => rfl
  | cons o l ih => simp [Chg.cells, i64c, ih]
@[simp] theorem nzL_rowP (l : List Ply) : nzL (rowP l) = rowP l := by
  induction l with
  | nil => rfl
  | cons o l ih => simp [Ply.cells, i64c, ih]
def rowB (l : List (List Ord)) : List TV := l.map fun b => .isl (rowC b) b.length
@[simp] theorem rowB_length (l : List (List Ord)) : (rowB l).length = l.length := by simp [rowB]
theorem rowB_at {l : List (List Ord)} {k : Nat} (h : k < l.length) : List.drop k (rowB l) = .isl (rowC l[k]) l[k].length :: List.drop (k + 1) (rowB l) := by
  rw [List.drop_eq_getElem_cons (by simpa using h)]; simp [rowB]

def fitS (a : List Chg × Ros) (c : Chg) : List Chg × Ros := if a.1.length < 8 ∧ a.2.chk c = 0 then (a.1 ++ [c], a.2.app c) else a
def fitL (was : Ros) (l : List Chg) : List Chg × Ros := l.foldl fitS ([], was)
theorem fitL_snoc (was : Ros) {l : List Chg} {k : Nat} (h : k < l.length) : fitL was (l.take (k + 1)) = fitS (fitL was (l.take k)) l[k] := by
  unfold fitL
  rw [List.take_succ_eq_append_getElem h, List.foldl_append]
  rfl
def fitP1 (all : List Int) (L : List (List Ord)) (i : Nat) : Ply := ⟨all.getD i 0, tidy (L.getD i [])⟩
def fitP (all : List Int) (L : List (List Ord)) (k : Nat) : List Ply := (List.range k).map (fitP1 all L)
@[simp] theorem fitP_length (all : List Int) (L : List (List Ord)) (k : Nat) : (fitP all L k).length = k := by simp [fitP]
theorem fitP_succ (all : List Int) (L : List (List Ord)) (k : Nat) : fitP all L (k + 1) = fitP all L k ++ [fitP1 all L k] := by simp [fitP, List.range_succ]
def fit (t : Int) (was : Ros) (cs : List Chg) (L : List (List Ord)) : Rec :=
  ⟨t, (fitL was (few cs)).1, 0, 0, fitP ((fitL was (few cs)).2.all 32) L ((fitL was (few cs)).2.all 32).length⟩
theorem fgo1 {R : Ros} {c : Chg} (h : R.chk c = 0) : R.goW R [c] = (R.app c, 0) := by
  rw [Ros.goW, if_neg (by simp [h])]; rfl
theorem few_vl {l : List Chg} : ∀ c ∈ few l, c.v.length ≤ 34 := fun c hc => by
  obtain ⟨d, _, rfl⟩ := List.mem_map.1 hc
  simp [few1]
  omega

set_option maxHeartbeats 8000000 in
set_option maxRecDepth 100000 in
theorem Fit_T (t : Int) (was : Ros) (cs : List Chg) (L : List (List Ord)) (hs : was.s < 2 ^ 32) (he : 0 ≤ was.e) (he2 : was.e ≤ 1000000) (hcl : cs.length ≤ maxLen) :
    callT Tryz.prog 38 [i64c t, .agg was.cells, .isl (rowG cs) cs.length, .isl (rowB L) L.length] ⟨[], []⟩ (fun x h => x = .agg (fit t was cs L).cells ∧ h = []) := by
  refine callT.mono (K := fun x h => ∃ u u2, x = .agg [i64c t, .sl 1001 u 0 (fit t was cs L).c.length, i64c 0, i64c 0, .sl 1002 u2 0 (fit t was cs L).l.length] ∧ h = [(1001, u, ⟨3, rowG (fit t was cs L).c⟩), (1002, u2, ⟨2, rowP (fit t was cs L).l⟩)]) ?_ fun x h hh => ?_
  · refine callT_of_body [0, 1, 2, 3, 5, 8, 9, 10, 12, 13, 14, 15, 20, 21, 22, 23, 35, 51, 52, 53, 54, 63] [1001, 1002] Tryz.func38 rfl (by decide) (by kernel_rfl) rfl ?_
    have hfl := few_length cs
    have hfv := few_vl (l := cs)
    have hfew := Few_T cs hcl
    have hfit : fit t was cs L = ⟨t, (fitL was (few cs)).1, 0, 0, fitP ((fitL was (few cs)).2.all 32) L ((fitL was (few cs)).2.all 32).length⟩ := rfl
    generalize few cs = F at hfl hfv hfew hfit
    rw [hfit]
    simp [Ros.cells, u32v, i64c]
    intro v5 v8 v9 v10
    refine callT_eq [] hfew ?_
    simp [Ros.cells, u32v, i64c]
    refine ⟨Nat × List Chg × Ros × Nat, fun x => x.1 ≤ F.length ∧ fitL was (F.take x.1) = (x.2.1, x.2.2.1) ∧ x.2.2.1.s < 2 ^ 32 ∧ x.2.1.length ≤ 8 ∧ 0 ≤ x.2.2.1.e ∧ x.2.2.1.e ≤ was.e + x.1, fun x => ⟨[(3, .isl (rowB L) L.length), (8, .at 8 v8 0), (9, .at 9 v9 0), (10, .at 10 v10 0), (20, .isl (rowG F) F.length), (21, .v (.int .i64 F.length)), (22, .v (.int .i64 x.1))], [(8, v8, ⟨0, [i64c 0, .v (.slice none 0 0), i64c 0, i64c 0, .v (.slice none 0 0)]⟩), (9, v9, ⟨0, [i64c t, .sl 1001 x.2.2.2 0 x.2.1.length, i64c 0, i64c 0, .v (.slice none 0 0)]⟩), (10, v10, ⟨0, [u32v x.2.2.1.s, i64c x.2.2.1.e]⟩), (1001, x.2.2.2, ⟨3, rowG x.2.1⟩)]⟩, fun x => F.length - x.1, ?_, ?_⟩
    · refine SLx.nilCell 9 1 1001 3 (by decide) (by decide) rfl rfl fun u => SLx.fin _ ⟨(0, [], was, u), ⟨by simp, rfl, hs, by simp, he, by simp⟩, rfl⟩ ?_ ?_
      · simp
      · simp [i64c, u32v, setH]
    rintro ⟨k, C, R, u⟩ ⟨hk, hCR, hR, hC8, he0, hek⟩
    simp only at hk hCR hR hC8 he0 hek ⊢
    by_cases g : k < F.length
    · have hat := rowG_at g
      have hvk := hfv F[k] (List.getElem_mem g)
      have hsn := fitL_snoc was g
      rw [hCR] at hsn
      generalize F[k] = c at hat hvk hsn
      have e1 : IntKind.i64.wrap ((k : Int) + 1) = ((k + 1 : Nat) : Int) := by rw [i64_id (by omega) (by omega)]; rfl
      have hw := RWith_T R [c] hR (by simp) (by simp; omega) he0 (by omega)
      by_cases h8 : C.length < 8
      · have h8' : (C.length : Int) < 8 := by omega
        simp [g, hat, i64c, u32v, h8, h8']
        intro v12
        refine callT_eq [] (RChk_T R c hR (by omega)) ?_
        by_cases hc : R.chk c = 0
        · rw [fgo1 hc] at hw
          have hst : fitS (C, R) c = (C ++ [c], R.app c) := by simp [fitS, h8, hc]
          rw [hst] at hsn
          simp [Ros.cells, Chg.cells, u32v, i64c, hc]
          refine fun v39 => ⟨by omega, by omega, fun u2 v45 => ?_⟩
          refine callT.pre (fn_of hw) (CLx.frz 45 rfl (CLx.done ?_))
          simp
          refine callT_eq [] hw ?_
          simp [Ros.cells, Chg.cells, u32v, i64c]
          exact SLx.again (k + 1, C ++ [c], R.app c, u2) ⟨by simp only; omega, hsn, app_lt hR hc, by simp; omega, by simp only [Ros.app]; omega, by simp only [Ros.app]; omega⟩ (by simp only; omega) (by simp [e1]) (by simp [rowG_snoc, rowG_tk, Chg.cells, u32v, i64c])
        · have hst : fitS (C, R) c = (C, R) := by simp [fitS, hc]
          rw [hst] at hsn
          simp [Ros.cells, Chg.cells, u32v, i64c, hc]
          exact SLx.again (k + 1, C, R, u) ⟨by simp only; omega, hsn, hR, hC8, he0, by simp only; omega⟩ (by simp only; omega) (by simp [e1]) (by simp [u32v, i64c])
      · have h8' : ¬ (C.length : Int) < 8 := by omega
        have hst : fitS (C, R) c = (C, R) := by simp [fitS, h8]
        rw [hst] at hsn
        simp [g, hat, i64c, u32v, h8, h8']
        intro v12
        exact SLx.again (k + 1, C, R, u) ⟨by simp only; omega, hsn, hR, hC8, he0, by simp only; omega⟩ (by simp only; omega) (by simp [e1]) (by simp [u32v, i64c])
    · have : k = F.length := by omega
      subst this
      rw [List.take_length] at hCR
      rw [hCR]
      simp only
      have hal := R.all_len 32
      simp [i64c, u32v]
      refine callT_eq [] (RAll_T R hR) ?_
      generalize R.all 32 = A at hal
      simp [Ros.cells, i64c, u32v]
      refine ⟨Nat × Nat, fun x => x.1 ≤ A.length, fun x => ⟨[(3, .isl (rowB L) L.length), (8, .at 8 v8 0), (9, .at 9 v9 0), (51, .isl (A.map i64c) A.length), (52, .v (.int .i64 A.length)), (53, .v (.int .i64 x.1))], [(8, v8, ⟨0, [i64c 0, .isl [] 0, i64c 0, i64c 0, .isl [] 0]⟩), (9, v9, ⟨0, [i64c t, .sl 1001 u 0 C.length, i64c 0, i64c 0, .sl 1002 x.2 0 x.1]⟩), (1001, u, ⟨3, rowG C⟩), (1002, x.2, ⟨2, rowP (fitP A L x.1)⟩)]⟩, fun x => A.length - x.1, ?_, ?_⟩
      · refine SLx.nilCell 9 4 1002 2 (by decide) (by decide) rfl rfl fun u2 => SLx.nz (SLx.fin _ ⟨(0, u2), by simp, rfl⟩ ?_ ?_)
        · simp
        · simp [i64c, setH, fitP]
      rintro ⟨j, u2⟩ hj
      simp only at hj ⊢
      by_cases g2 : j < A.length
      · have hat := isl_at g2
        have e1 : IntKind.i64.wrap ((j : Int) + 1) = ((j + 1 : Nat) : Int) := by rw [i64_id (by omega) (by omega)]; rfl
        have hPs := fitP_succ A L j
        have hPl := fitP_length A L j
        have hPg : A.getD j 0 = A[j] := by simp [g2]
        have hP1 : fitP1 A L j = ⟨A[j], tidy (L.getD j [])⟩ := by rw [fitP1, hPg]
        rw [hP1] at hPs
        generalize fitP A L j = P at hPs hPl ⊢
        have htk : List.take (j * 2) (rowP P) = rowP P := List.take_of_length_le (by simp; omega)
        have hdr : List.drop (j * 2 + 2) (rowP P) = [] := List.drop_of_length_le (by simp; omega)
        by_cases g3 : j < L.length
        · have hat2 := rowB_at g3
          have hLg : L.getD j [] = L[j] := by simp [g3]
          rw [hLg] at hPs
          simp [g2, g3, hat, hat2, i64c]
          intro v15
          refine callT_eq [] (Tidy_T L[j]) ?_
          simp [i64c]
          refine fun v73 => ⟨by omega, by omega, by omega, fun u3 => ?_⟩
          exact SLx.again (j + 1, u3) (by simp only; omega) (by simp only; omega) (by simp [e1]) (by simp [hPs, rowP_snoc, htk, hdr, Ply.cells, i64c])
        · have hLg : L.getD j [] = [] := by rw [List.getD_eq_getElem?_getD, List.getElem?_eq_none (by omega)]; rfl
          rw [hLg] at hPs
          simp [g2, g3, hat, i64c]
          refine fun v15 v73 => ⟨by omega, by omega, by omega, fun u3 => ?_⟩
          refine SLx.nz (SLx.again (j + 1, u3) (by simp only; omega) (by simp only; omega) (by simp [e1]) ?_)
          simp [hPs, rowP_snoc, htk, hdr, Ply.cells, i64c]
          exact ⟨rfl, rfl⟩
      · have : j = A.length := by omega
        subst this
        simp [i64c]
  · obtain ⟨u, u2, rfl, rfl⟩ := hh
    have ht : (fit t was cs L).t = t := rfl
    have hpt : (fit t was cs L).pt = 0 := rfl
    have hpd : (fit t was cs L).pd = 0 := rfl
    generalize fit t was cs L = r at ht hpt hpd ⊢
    subst ht
    refine VLx.frz 1001 rfl (VLx.frz 1002 rfl (VLx.done ?_))
    simp [Rec.cells, i64c, rowP_tk, rowG_tk, hpt, hpd]
end Go.Proofs.YtnkdkajllmopaaaGreat.TL
