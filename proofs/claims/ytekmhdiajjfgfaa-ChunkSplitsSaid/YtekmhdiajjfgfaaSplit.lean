/- Pieces of a text: the plain law on the printed functions of chunk and its twin: what Split gives, that each piece may be. -/
import Derived.Test.YtekmhdiajjfgfaaQChunkSplitsx5
namespace Go.Proofs.Ytekmhdiajjfgfaa.QChunkSplits
open Go.Proofs.Ytekmhdiajjfgfaa Go.RowKit Go.Proofs.YtekmhdiajjfgfaaW.PrintWords Go.Proofs.YtekmhdiajjfgfaaW.PrintLast Go.Proofs.YtekmhdiajjfgfaaW.PrintMore
set_option linter.unusedVariables false
set_option linter.unusedSimpArgs false

theorem wrap_in {i : Int} (h0 : -9223372036854775808 ≤ i) (h : i ≤ 9223372036854775807) : wrap64 i = i := by unfold wrap64; omega

/-- One byte into the sum, d bytes from i on. -/
def fnvStep (s b : Int) : Int := IntKind.u64.wrap ((Go.bits .xor .u64 s (IntKind.u64.wrap b)) * 1099511628211)
def fnvs (x : ByteArray) : Nat → Int → Int → Int
  | 0, _, s => s
  | d + 1, i, s => fnvs x d (i + 1) (fnvStep s (bt x i))
def fnv (x : ByteArray) : Int := fnvs x x.size 0 14695981039346656037

theorem add_l1 (x : ByteArray) (hx : x.size < 9223372036854775807) : ∀ (d q : Nat) (i s : Int), 0 ≤ i → (x.size : Int) - i = d → sums_Fnv_Add.l1 (d + 1 + q) s x [x] 1 0 x.size i = sums_Fnv_Add.l0 q (fnvs x d i s) [x] 1 1
  | 0, q, i, s, h0, hd => by
    rw [show 0 + 1 + q = q + 1 from by omega]
    simp only [sums_Fnv_Add.l1, fnvs]
    rw [if_neg (by omega), wrap_in (by decide) (by decide)]; rfl
  | d + 1, q, i, s, h0, hd => by
    rw [show d + 1 + 1 + q = (d + 1 + q) + 1 from by omega]
    simp only [sums_Fnv_Add.l1, fnvs]
    rw [if_pos (by omega), if_pos h0, if_pos (by omega), wrap_in (i := i + 1) (by omega) (by omega)]
    exact add_l1 x hx d q (i + 1) _ (by omega) (by omega)
theorem sum_is (x : ByteArray) (hx : x.size < 9223372036854775807) (k : Nat) (hk : x.size + 3 ≤ k) : sums_Of.f k [x] = some (fnv x) := by
  have h := add_l1 x hx x.size 1 0 14695981039346656037 (by decide) (by omega)
  have h1 : sums_Fnv_Add.f (x.size + 3) 14695981039346656037 [x] = some (fnv x) := by
    unfold sums_Fnv_Add.f
    rw [show x.size + 3 = (x.size + 1 + 1) + 1 from by omega]
    simp only [sums_Fnv_Add.l0, List.length_cons, List.length_nil]
    rw [if_pos (by decide), if_pos (by decide), if_pos (by decide)]
    refine Eq.trans ?_ (h.trans ?_)
    · rfl
    · simp only [sums_Fnv_Add.l0]; rw [if_neg (by decide)]; rfl
  have h2 := at_rounds (g := fun k => sums_Fnv_Add.f k 14695981039346656037 [x]) (fun k => sums_Fnv_Add.mono _ _ k) hk h1
  unfold sums_Of.f
  rw [h2]; rfl
theorem ref_l0 (x : ByteArray) (hx : x.size < 9223372036854775807) : ∀ (d q : Nat) (i s : Int), 0 ≤ i → (x.size : Int) - i = d → cotillionref01_Of.l0 (d + 1 + q) x s i = some (fnvs x d i s)
  | 0, q, i, s, h0, hd => by
    rw [show 0 + 1 + q = q + 1 from by omega]
    simp only [cotillionref01_Of.l0, fnvs]
    rw [if_neg (by omega)]
  | d + 1, q, i, s, h0, hd => by
    rw [show d + 1 + 1 + q = (d + 1 + q) + 1 from by omega]
    simp only [cotillionref01_Of.l0, fnvs]
    rw [if_pos (by omega), if_pos h0, wrap_in (i := i + 1) (by omega) (by omega)]
    exact ref_l0 x hx d q (i + 1) _ (by omega) (by omega)
theorem ref_is (x : ByteArray) (hx : x.size < 9223372036854775807) (k : Nat) (hk : x.size + 1 ≤ k) : cotillionref01_Of.f k x = some (fnv x) := by
  obtain ⟨q, rfl⟩ : ∃ q, k = x.size + 1 + q := ⟨k - (x.size + 1), by omega⟩
  exact ref_l0 x hx x.size q 0 _ (by decide) (by omega)

/-- How many pieces. -/
def cnt (n : Nat) : Nat := (n + 99) / 100
theorem count_is (n : Nat) (hn : n ≤ 65536) : chunk_Count.f (n : Int) = some (cnt n : Int) := by
  unfold chunk_Count.f mx
  rw [if_neg (by omega), wrap_in (i := (n : Int) + 100) (by omega) (by omega), wrap_in (i := (n : Int) + 100 - 1) (by omega) (by omega), Int.tdiv_eq_ediv_of_nonneg (by omega), wrap_in (by omega) (by omega)]
  unfold cnt; congr 1; omega
theorem refcount_l0 (n : Nat) (hn : n ≤ 65536) : ∀ (d q i : Nat), i + d = cnt n → cotillionref11_Count.l0 (d + 1 + q) n i ((i : Int) * 100) = some (cnt n : Int)
  | 0, q, i, hd => by
    rw [show 0 + 1 + q = q + 1 from by omega]
    simp only [cotillionref11_Count.l0]
    unfold cnt at hd
    rw [if_neg (by omega)]; unfold cnt; congr 1; omega
  | d + 1, q, i, hd => by
    rw [show d + 1 + 1 + q = (d + 1 + q) + 1 from by omega]
    simp only [cotillionref11_Count.l0]
    have h := refcount_l0 n hn d q (i + 1) (by omega)
    unfold cnt at hd
    rw [if_pos (by omega), wrap_in (by omega) (by omega), wrap_in (by omega) (by omega)]
    rw [← h]; congr 1; omega
theorem refcount_is (n : Nat) (hn : n ≤ 65536) (k : Nat) (hk : 657 ≤ k) : cotillionref11_Count.f k n = some (cnt n : Int) := by
  obtain ⟨q, rfl⟩ : ∃ q, k = cnt n + 1 + q := ⟨k - (cnt n + 1), by unfold cnt; omega⟩
  exact refcount_l0 n hn (cnt n) q 0 (by omega)

/-- Piece i of a text. -/
def ext (x : ByteArray) (i : Nat) : ByteArray := x.extract (i * 100) (min (i * 100 + 100) x.size)
def pc (t h : Int) (x : ByteArray) (i : Nat) : S31 := ⟨t, x.size, h, i, ext x i⟩
def pr (t h : Int) (x : ByteArray) (i : Nat) : S32 := ⟨t, x.size, h, i, ext x i⟩
def pcs (t h : Int) (x : ByteArray) (n : Nat) : List S31 := (List.range n).map (pc t h x)
def prs (t h : Int) (x : ByteArray) (n : Nat) : List S32 := (List.range n).map (pr t h x)
theorem pcs_len (t h : Int) (x : ByteArray) (n : Nat) : (pcs t h x n).length = n := by simp [pcs]
theorem prs_len (t h : Int) (x : ByteArray) (n : Nat) : (prs t h x n).length = n := by simp [prs]
theorem pcs_at (t h : Int) (x : ByteArray) {n i : Nat} (hi : i < n) : rd_T31 (pcs t h x n) (i : Int) = pc t h x i := by simp [rd_T31, pcs, List.getD_eq_getElem?_getD, hi]
theorem prs_at (t h : Int) (x : ByteArray) {n i : Nat} (hi : i < n) : rd_T32 (prs t h x n) (i : Int) = pr t h x i := by simp [rd_T32, prs, List.getD_eq_getElem?_getD, hi]
theorem pcs_up (t h : Int) (x : ByteArray) (n : Nat) : pcs t h x n ++ [pc t h x n] = pcs t h x (n + 1) := by simp [pcs, List.range_succ]
theorem prs_up (t h : Int) (x : ByteArray) (n : Nat) : prs t h x n ++ [pr t h x n] = prs t h x (n + 1) := by simp [prs, List.range_succ]
theorem ext_size (x : ByteArray) (i : Nat) (hi : i < cnt x.size) : (ext x i).size = min 100 (x.size - i * 100) := by
  unfold cnt at hi
  unfold ext; rw [ByteArray.size_extract]; omega

theorem split_l0 (t h : Int) (x : ByteArray) (hx : x.size ≤ 65536) : ∀ (d q i : Nat), i + d = cnt x.size → chunk_Split.l0 (d + 1 + q) x (pcs t h x i) (cnt x.size) i t x.size h = some (pcs t h x (cnt x.size))
  | 0, q, i, hd => by
    rw [show 0 + 1 + q = q + 1 from by omega]
    simp only [chunk_Split.l0]
    rw [if_neg (by omega), show i = cnt x.size from by omega]
  | d + 1, q, i, hd => by
    rw [show d + 1 + 1 + q = (d + 1 + q) + 1 from by omega]
    simp only [chunk_Split.l0]
    have ih := split_l0 t h x hx d q (i + 1) (by omega)
    have hc : (cnt x.size : Int) * 100 ≤ x.size + 99 := by unfold cnt; omega
    have hlt : i * 100 < x.size := by unfold cnt at hd; omega
    have e1 : wrap64 ((i : Int) * 100) = (i : Int) * 100 := wrap_in (by omega) (by omega)
    have e2 : wrap64 ((i : Int) + 1) = ((i + 1 : Nat) : Int) := wrap_in (by omega) (by omega)
    have e3 : wrap64 (((i + 1 : Nat) : Int) * 100) = ((i + 1 : Nat) : Int) * 100 := wrap_in (by omega) (by omega)
    have e4 : mn (((i + 1 : Nat) : Int) * 100) (x.size : Int) = ((min (i * 100 + 100) x.size : Nat) : Int) := by unfold mn; split <;> omega
    rw [if_pos (by omega), e1, e2, e3, e4, if_pos (by omega), if_pos (by omega), if_pos (by omega), pcs_len, if_pos (by omega)]
    have e5 : (⟨t, (x.size : Int), h, (i : Int), x.extract ((i : Int) * 100).toNat (((min (i * 100 + 100) x.size : Nat) : Int)).toNat⟩ : S31) = pc t h x i := by
      unfold pc ext; rw [show ((i : Int) * 100).toNat = i * 100 from by omega, Int.toNat_natCast]
    rw [e5, pcs_up]
    exact ih
theorem split_is (t : Int) (x : ByteArray) (hx : x.size ≤ 65536) (k : Nat) (hk : x.size + 660 ≤ k) : chunk_Split.f k t x = some (pcs t (fnv x) x (cnt x.size)) := by
  unfold chunk_Split.f
  rw [if_neg (by omega), sum_is x (by omega) k (by omega), Option.bind_some, count_is _ hx, Option.bind_some]
  obtain ⟨q, rfl⟩ : ∃ q, k = cnt x.size + 1 + q := ⟨k - (cnt x.size + 1), by unfold cnt; omega⟩
  exact split_l0 t (fnv x) x hx (cnt x.size) q 0 (by omega)
theorem refsplit_l0 (t : Int) (x : ByteArray) (hx : x.size ≤ 65536) : ∀ (d q i : Nat), i + d = cnt x.size → x.size + 660 ≤ q → cotillionref11_Split.l0 (d + 1 + q) t x (prs t (fnv x) x i) i = some (prs t (fnv x) x (cnt x.size))
  | 0, q, i, hd, hq => by
    rw [show 0 + 1 + q = q + 1 from by omega]
    simp only [cotillionref11_Split.l0]
    rw [refcount_is _ hx q (by omega), Option.bind_some, if_neg (by omega), show i = cnt x.size from by omega]
  | d + 1, q, i, hd, hq => by
    rw [show d + 1 + 1 + q = (d + 1 + q) + 1 from by omega]
    simp only [cotillionref11_Split.l0]
    have ih := refsplit_l0 t x hx d q (i + 1) (by omega) hq
    have hc : (cnt x.size : Int) * 100 ≤ x.size + 99 := by unfold cnt; omega
    have hlt : i * 100 < x.size := by unfold cnt at hd; omega
    have e1 : wrap64 (100 * (i : Int)) = (i : Int) * 100 := by rw [wrap_in (by omega) (by omega)]; omega
    have e2 : wrap64 ((i : Int) + 1) = ((i + 1 : Nat) : Int) := wrap_in (by omega) (by omega)
    have e3 : wrap64 ((i : Int) * 100 + 100) = ((i + 1 : Nat) : Int) * 100 := by rw [wrap_in (by omega) (by omega)]; omega
    have e4 : mn (((i + 1 : Nat) : Int) * 100) (x.size : Int) = ((min (i * 100 + 100) x.size : Nat) : Int) := by unfold mn; split <;> omega
    rw [refcount_is _ hx _ (by omega), Option.bind_some, if_pos (by omega), ref_is x (by omega) _ (by omega), Option.bind_some, e1, e2, e3, e4, if_pos (by omega), if_pos (by omega), if_pos (by omega), prs_len, if_pos (by omega)]
    have e5 : (⟨t, (x.size : Int), fnv x, (i : Int), x.extract ((i : Int) * 100).toNat (((min (i * 100 + 100) x.size : Nat) : Int)).toNat⟩ : S32) = pr t (fnv x) x i := by
      unfold pr ext; rw [show ((i : Int) * 100).toNat = i * 100 from by omega, Int.toNat_natCast]
    rw [e5, prs_up]
    exact ih
theorem refsplit_is (t : Int) (x : ByteArray) (hx : x.size ≤ 65536) (k : Nat) (hk : x.size + 1400 ≤ k) : cotillionref11_Split.f k t x = some (prs t (fnv x) x (cnt x.size)) := by
  obtain ⟨q, rfl⟩ : ∃ q, k = cnt x.size + 1 + q := ⟨k - (cnt x.size + 1), by unfold cnt; omega⟩
  exact refsplit_l0 t x hx (cnt x.size) q 0 (by omega) (by unfold cnt at hk; omega)
theorem check_is (t h : Int) (x : ByteArray) (hx : x.size ≤ 65536) (h0 : 0 ≤ t) (h1 : t ≤ 1099511627776) (i : Nat) (hi : i < cnt x.size) (k : Nat) (hk : 2 ≤ k) : chunk_Piece_Check.f k t x.size h i (ext x i) = some 0 := by
  obtain ⟨k, rfl⟩ : ∃ q, k = q + 2 := ⟨k - 2, by omega⟩
  have hz := ext_size x i hi
  have hlt : i * 100 < x.size := by unfold cnt at hi; omega
  have e1 : wrap64 ((i : Int) * 100) = (i : Int) * 100 := wrap_in (by omega) (by omega)
  have e2 : wrap64 ((x.size : Int) - (i : Int) * 100) = (x.size : Int) - (i : Int) * 100 := wrap_in (by omega) (by omega)
  have e4 : mn 100 ((x.size : Int) - (i : Int) * 100) = ((ext x i).size : Int) := by rw [hz]; unfold mn; split <;> omega
  unfold chunk_Piece_Check.f
  rw [if_neg (by omega), if_neg (by omega)]
  simp only [chunk_Piece_Check.j0]
  rw [if_neg (by simp), if_neg (by omega)]
  simp only [chunk_Piece_Check.j1]
  rw [if_neg (by simp; omega), count_is _ hx, Option.bind_some, if_neg (by omega)]
  unfold chunk_Piece_size.f
  rw [Option.bind_some, e1, e2, e4, if_pos rfl]
end Go.Proofs.Ytekmhdiajjfgfaa.QChunkSplits
