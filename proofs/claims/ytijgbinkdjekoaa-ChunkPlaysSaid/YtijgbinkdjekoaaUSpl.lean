/- A snapshot's pieces. -/
import Derived.Test.YtijgbinkdjekoaaUPcR
namespace Go.Proofs.Ytijgbinkdjekoaa.TL
open Go
set_option linter.unusedVariables false
set_option linter.unusedSimpArgs false

def rowQ (l : List Pcs) : List TV := (l.map Pcs.cells).flatten
@[simp] theorem rowQ_nil : rowQ [] = [] := rfl
@[simp] theorem rowQ_cons (o : Pcs) (l : List Pcs) : rowQ (o :: l) = o.cells ++ rowQ l := rfl
@[simp] theorem rowQ_length : ∀ l : List Pcs, (rowQ l).length = l.length * 5
  | [] => rfl
  | o :: l => by rw [rowQ_cons, List.length_append, rowQ_length l, List.length_cons, show o.cells.length = 5 from rfl]; omega
theorem rowQ_drop : ∀ (n : Nat) (l : List Pcs), (rowQ l).drop (n * 5) = rowQ (l.drop n)
  | 0, l => by simp
  | n + 1, [] => by simp [rowQ]
  | n + 1, c :: l => by
    rw [show (n + 1) * 5 = n * 5 + 5 by omega]
    have := rowQ_drop n l
    simpa [rowQ, Pcs.cells] using this
theorem rowQ_at {l : List Pcs} {k : Nat} (h : k < l.length) : List.drop (k * 5) (rowQ l) = i64c l[k].t :: i64c l[k].b :: u64c l[k].h :: i64c l[k].n :: .v (.string (bs l[k].s)) :: rowQ (l.drop (k + 1)) := by
  rw [rowQ_drop, List.drop_eq_getElem_cons h]
  rfl
theorem rowQ_snoc (l : List Pcs) (c : Pcs) : rowQ (l ++ [c]) = rowQ l ++ c.cells := by simp [rowQ]
theorem rowQ_tk (l : List Pcs) : List.take (l.length * 5) (rowQ l) = rowQ l := List.take_of_length_le (by simp)
@[simp] theorem rowQ_CloL : ∀ l : List Pcs, CloL (rowQ l)
  | [] => trivial
  | o :: l => ⟨trivial, trivial, trivial, trivial, trivial, rowQ_CloL l⟩

/-- The n-th piece of a text; the first so many. -/
def pieceAt (t : Int) (s : List UInt8) (n : Nat) : Pcs := ⟨t, s.length, sumOf s, n, (s.drop (n * 100)).take (min ((n + 1) * 100) s.length - n * 100)⟩
def pieces (t : Int) (s : List UInt8) (k : Nat) : List Pcs := (List.range k).map (pieceAt t s)
@[simp] theorem pieces_length (t : Int) (s : List UInt8) (k : Nat) : (pieces t s k).length = k := by simp [pieces]
theorem pieces_succ (t : Int) (s : List UInt8) (k : Nat) : pieces t s (k + 1) = pieces t s k ++ [pieceAt t s k] := by simp [pieces, List.range_succ]
theorem pieces_get {t : Int} {s : List UInt8} {k i : Nat} (h : i < (pieces t s k).length) : (pieces t s k)[i] = pieceAt t s i := by simp [pieces]
def split (t : Int) (s : List UInt8) : List Pcs := pieces t s ((s.length + 99) / 100)
theorem pieceAt_wf {t : Int} {s : List UInt8} {n : Nat} (ht : 0 ≤ t ∧ t ≤ 1099511627776) (hl : s.length ≤ 65536) (hn : n < (s.length + 99) / 100) : (pieceAt t s n).wf := by
  refine ⟨?_, sumOf_lt s⟩
  have hlen : ((pieceAt t s n).s.length : Int) = min 100 ((s.length : Int) - n * 100) := by
    simp only [pieceAt, List.length_take, List.length_drop]
    omega
  unfold Pcs.chk
  rw [hlen, if_neg (by simp only [pieceAt]; omega), if_neg (by simp only [pieceAt]; omega), if_neg (by simp only [pieceAt]; unfold pcN; omega)]

set_option maxHeartbeats 2000000 in
set_option maxRecDepth 100000 in
theorem Split_T (t : Int) (s : List UInt8) (hs : s.length ≤ 65536) : callT Try.prog 10 [i64c t, .v (.string (bs s))] ⟨[], []⟩ (fun x h => x = .isl (rowQ (split t s)) (split t s).length ∧ h = []) := by
  refine callT.mono (K := fun x h => ∃ u, x = .sl 1001 u 0 (split t s).length ∧ h = [(1001, u, ⟨5, rowQ (split t s)⟩)]) ?_ fun x h hh => ?_
  · refine callT_of_body [0, 1, 4, 5, 6, 7, 10, 20, 21, 22] [1001] Try.func10 rfl (by decide) (by kernel_rfl) rfl ?_
    have g0 : ¬ 65536 < s.length := by omega
    have g0' : ¬ (65536 : Int) < s.length := by omega
    have hcn := PcCount_T (s.length : Int) (by omega)
    have hpn : pcN (s.length : Int) = ((s.length + 99) / 100 : Nat) := by unfold pcN; omega
    rw [hpn] at hcn
    have hsp : split t s = pieces t s ((s.length + 99) / 100) := rfl
    have hNb : (s.length + 99) / 100 ≤ 656 := by omega
    have hN1 : ∀ k, k < (s.length + 99) / 100 → k * 100 ≤ s.length := fun k hk => by omega
    generalize (s.length + 99) / 100 = N at hcn hsp hNb hN1
    rw [hsp]
    simp [i64c, g0, g0']
    intro v15
    have hsum := SumOf_T s (by omega)
    refine callT.pre (fn_of hsum) (CLx.frz 15 rfl (CLx.done ?_))
    simp
    refine callT_eq [] hsum ?_
    simp [u64c]
    intro v5
    refine callT_eq [] hcn ?_
    simp [i64c]
    refine ⟨Nat × Nat, fun x => x.1 ≤ N, fun x => ⟨[(1, .v (.string (bs s))), (5, .at 5 v5 0), (6, .sl 1001 x.2 0 x.1), (20, .v (.int .i64 N)), (21, .v (.int .i64 x.1))], [(5, v5, ⟨0, [i64c t, i64c s.length, u64c (sumOf s)]⟩), (1001, x.2, ⟨5, rowQ (pieces t s x.1)⟩)]⟩, fun x => N - x.1, ?_, ?_⟩
    · refine SLx.nil 6 1001 5 (by decide) (by simp) fun u => SLx.fin _ ⟨(0, u), by simp, rfl⟩ ?_ ?_
      · simp
      · simp [i64c, u64c, setH, pieces]
    rintro ⟨k, u⟩ hk
    simp only at hk ⊢
    by_cases g : k < N
    · have hk1 := hN1 k g
      have e1 : IntKind.i64.wrap ((k : Int) + 1) = ((k + 1 : Nat) : Int) := by rw [i64_id (by omega) (by omega)]; rfl
      have e2 : IntKind.i64.wrap ((k : Int) * 100) = ((k * 100 : Nat) : Int) := by rw [i64_id (by omega) (by omega)]; rfl
      have e3 : IntKind.i64.wrap (((k : Int) + 1) * 100) = (((k + 1) * 100 : Nat) : Int) := by rw [i64_id (by omega) (by omega)]; omega
      have e4 : min (((k + 1) * 100 : Nat) : Int) (s.length : Int) = ((min ((k + 1) * 100) s.length : Nat) : Int) := by omega
      have e5 : (((min ((k + 1) * 100) s.length : Nat) : Int) - ((k * 100 : Nat) : Int)).toNat = min ((k + 1) * 100) s.length - k * 100 := by omega
      have hsn := pieces_succ t s k
      have hpl := pieces_length t s k
      generalize pieces t s k = F at hsn hpl ⊢
      have htk : List.take (k * 5) (rowQ F) = rowQ F := List.take_of_length_le (by simp; omega)
      have hdr : List.drop (k * 5 + 5) (rowQ F) = [] := List.drop_of_length_le (by simp; omega)
      generalize hP : (s.drop (k * 100)).take (min ((k + 1) * 100) s.length - k * 100) = P at *
      have hpa : pieceAt t s k = ⟨t, s.length, sumOf s, k, P⟩ := by simp only [pieceAt, hP]
      rw [hpa] at hsn
      have m1 : k * 100 ≤ min ((k + 1) * 100) s.length := by omega
      have m2 : min ((k + 1) * 100) s.length ≤ s.length := by omega
      generalize hM : min ((k + 1) * 100) s.length = M at *
      generalize hQ : (k + 1) * 100 = Q at *
      generalize hR : k * 100 = R0 at *
      simp only [g, i64c, u64c]
      simp [g, e1, e2]
      refine draw_g [0, 1, 2, 3, 4, 5, 6, 7, 8, 9, 10, 11, 12, 13, 14, 15, 16, 17, 18, 19] 20 [] (by kernel_rfl) (by kernel_rfl) (by kernel_rfl) ?_
      simp [e1, e2, e3, e4]
      repeat refine ⟨by omega, ?_⟩
      rw [hP]
      intro u2
      exact SLx.again (k + 1, u2) (by simp only; omega) (by simp only; omega) (by simp) (by simp [hsn, htk, hdr, rowQ_snoc, Pcs.cells, i64c, u64c])
    · have : k = N := by omega
      subst this
      simp
  · obtain ⟨u, rfl, rfl⟩ := hh
    refine VLx.frz 1001 rfl (VLx.done ?_)
    simp [rowQ_tk]
end Go.Proofs.Ytijgbinkdjekoaa.TL
