/- Calls of a script; what the known writes make: plain laws. -/
import Derived.Test.YtjlgmaappebppaaDiskE
import Derived.Test.YtjlgmaappebppaaDiskG
namespace Go.Proofs.Ytjlgmaappebppaa
open Go Go.RowKit

structure Dw where
  kind : Int
  ba : Option Addr
  bc : Nat
  b : List Int
  torn : Int
  slot : Int
  at' : Int
  wv : Int
def Dw.cells (f : Dw) : List Value := [.int .u8 f.kind, .slice f.ba f.b.length f.bc, .int .i64 f.torn, .int .i64 f.slot, .int .i64 f.at', .int .u8 f.wv]
def Dw.val (f : Dw) : Value := .agg f.cells.toArray
structure Dw.ok (f : Dw) : Prop where
  kind : 0 ≤ f.kind ∧ f.kind < 256
  b : Bytes f.b
  torn : -9223372036854775808 ≤ f.torn ∧ f.torn ≤ 9223372036854775807
  slot : -9223372036854775808 ≤ f.slot ∧ f.slot ≤ 9223372036854775807
  at' : -9223372036854775808 ≤ f.at' ∧ f.at' ≤ 9223372036854775807
  wv : 0 ≤ f.wv ∧ f.wv < 256
theorem Dw.ones (f : Dw) : ∀ v ∈ f.cells, v.oneCell' = true := by
  intro v hv
  simp only [Dw.cells, List.mem_cons, List.not_mem_nil, or_false] at hv
  rcases hv with rfl | rfl | rfl | rfl | rfl | rfl <;> rfl

structure DwS (w : World) (T : Pm) (v : Value) (fs : List Dw) : Prop where
  rows : RdS w T v 6 fs.length (vcs Dw.val fs)
  b : ∀ f ∈ fs, RdS w T (.slice f.ba f.b.length f.bc) 1 f.b.length (ints .u8 f.b)
structure DwOf (r : Res) (v : Value) (fs : List Dw) : Prop where
  rows : RdOf r v 6 fs.length (vcs Dw.val fs)
  b : ∀ f ∈ fs, RdOf r (.slice f.ba f.b.length f.bc) 1 f.b.length (ints .u8 f.b)
section
variable {c : Cx} {A F : List Res}
theorem OK.srcD {F' : List Res} {w : World} {r : Res} {v : Value} {fs : List Dw} (hw : OK c.w0 c.S (A ++ F) w) (h : DwOf r v fs) (t : Take1 F r F') : DwS w (fpL A) v fs :=
  ⟨hw.src h.rows t, fun f hf => hw.src (h.b f hf) t⟩
end
def allR (A : List Res) : Res where
  fp := fun k => ∃ r ∈ A, r.fp k
  wr := noB
  sub := fun _ h => h.elim
  ok := fun w => ∀ r ∈ A, r.ok w
  lt := fun w h k ⟨r, hr, hk⟩ => r.lt w (h r hr) k hk
  st := fun w w' D h hc hd r hr => r.st w w' D (h r hr) hc (fun k hk => hd k ⟨r, hr, hk⟩)
theorem RdOf.all {A : List Res} {r : Res} {v : Value} {size n : Nat} {cs : List Value} (h : RdOf r v size n cs) (hr : r ∈ A) : RdOf (allR A) v size n cs := ⟨fun w hw => h.rd w (hw r hr)⟩
def dwRs (v : Value) (fs : List Dw) : List Res := rdR v 6 fs.length (vcs Dw.val fs) :: fs.map (fun f => rdR (.slice f.ba f.b.length f.bc) 1 f.b.length (ints .u8 f.b))
def dwR (v : Value) (fs : List Dw) : Res := allR (dwRs v fs)
theorem dwR_of (v : Value) (fs : List Dw) : DwOf (dwR v fs) v fs :=
  ⟨RdOf.all RdOf.rd' (List.mem_cons.2 (.inl rfl)), fun f hf => RdOf.all RdOf.rd' (List.mem_cons.2 (.inr (List.mem_map.2 ⟨f, hf, rfl⟩)))⟩
theorem dwAll {fs : List Dw} : ∀ x ∈ fs, (fun _ : Dw => True) x := fun _ _ => trivial
theorem dw_flat (fs : List Dw) : (fs.map Dw.cells).flatten = vcs Dw.val fs := by
  induction fs with
  | nil => rfl
  | cons f fs ih => rw [List.map_cons, List.flatten_cons, ih, vcs_cons]; rfl

/-- How much a script weighs. -/
def tot (fs : List Dw) : Nat := (fs.map fun f => 16 + f.b.length).foldr (· + ·) 0
theorem foldr_app (l m : List Nat) : (l ++ m).foldr (· + ·) 0 = l.foldr (· + ·) 0 + m.foldr (· + ·) 0 := by
  induction l with
  | nil => simp
  | cons x l ih => simp only [List.cons_append, List.foldr_cons, ih]; omega
theorem tot_take {fs : List Dw} {j : Nat} {f : Dw} (h : fs[j]? = some f) : tot (fs.take (j + 1)) = tot (fs.take j) + (16 + f.b.length) := by
  rw [← take_snoc _ _ _ h]
  unfold tot
  rw [List.map_append, foldr_app]
  simp
theorem tot_le (fs : List Dw) (j : Nat) : tot (fs.take j) ≤ tot fs := by
  have e : fs.map (fun f => 16 + f.b.length) = (fs.take j).map (fun f => 16 + f.b.length) ++ (fs.drop j).map (fun f => 16 + f.b.length) := by rw [← List.map_append, List.take_append_drop]
  unfold tot
  rw [e, foldr_app]; omega
theorem tot_mem {fs : List Dw} {j : Nat} {f : Dw} (h : fs[j]? = some f) : f.b.length ≤ tot fs := by
  have h1 := tot_take h
  have h2 := tot_le fs (j + 1)
  omega

/-! ### The known writes -/
theorem rec_whole {n : Int} {b : List Int} (hn : 0 < n ∧ n < 18446744073709551616) (hb : b.length ≤ 8388608) : whOk (recF n b) = true ∧ whN (recF n b) = n ∧ whB (recF n b) = b := by
  have hl := recF_len n b
  have l4 := headF_len n b
  obtain ⟨s, hs⟩ : ∃ s, (sum256 (headF n b)).take 8 = s := ⟨_, rfl⟩
  have hsl : s.length = 8 := by rw [← hs, List.length_take, sum256_len]; rfl
  have e : recF n b = [72, 68] ++ (be n 8 ++ (be (b.length : Int) 4 ++ (b ++ s))) := by unfold recF headF; rw [← hs]; simp [headF]
  have d2 : (recF n b).drop 2 = be n 8 ++ (be (b.length : Int) 4 ++ (b ++ s)) := by rw [e]; rfl
  have d10 : (recF n b).drop 10 = be (b.length : Int) 4 ++ (b ++ s) := by
    rw [show (10 : Nat) = 2 + 8 by rfl, ← List.drop_drop, d2, List.drop_left' (be_len _ _)]
  have d14 : (recF n b).drop 14 = b ++ s := by
    rw [show (14 : Nat) = 10 + 4 by rfl, ← List.drop_drop, d10, List.drop_left' (be_len _ _)]
  have hN : whN (recF n b) = n := by
    unfold whN
    rw [d2, List.take_left' (be_len _ _)]
    exact val_be 8 n (by omega) (by have : (256 : Int) ^ 8 = 18446744073709551616 := by decide
                                    omega)
  have hS : whS (recF n b) = (b.length : Int) := by
    unfold whS
    rw [d10, List.take_left' (be_len _ _)]
    exact val_be 4 _ (by omega) (by have : (256 : Int) ^ 4 = 4294967296 := by decide
                                    omega)
  have hK : whK (recF n b) = b.length := by unfold whK; rw [hS]; rfl
  have hB : whB (recF n b) = b := by unfold whB; rw [hK, d14, List.take_left' rfl]
  refine ⟨?_, hN, hB⟩
  have hfit : whFit (recF n b) = true := by
    unfold whFit
    rw [hN, hS, hK, hl, decide_eq_true (by omega), decide_eq_true (by omega), decide_eq_true (by omega), decide_eq_true (by omega)]; rfl
  have ht : (recF n b).take 2 = [72, 68] := by rw [e]; rfl
  have hh : (recF n b).take (14 + b.length) = headF n b := by unfold recF; rw [List.take_left' l4]
  have hd : ((recF n b).drop (14 + b.length)).take 8 = s := by
    rw [← List.drop_drop, d14, List.drop_left' rfl, List.take_of_length_le (by omega)]
  unfold whOk
  rw [hfit, hK, hh, hd, hs, decide_eq_true ht]; simp

theorem nil_no : whOk [] = false := no_len (by decide)
theorem nw_nil : nwS [] [] = -1 := by unfold nwS; rw [nil_no]; rfl
theorem nw_first {n : Int} {b : List Int} (hn : 0 < n ∧ n < 18446744073709551616) (hb : b.length ≤ 8388608) : nwS (recF n b) [] = 0 := by unfold nwS; rw [nil_no, (rec_whole hn hb).1]; rfl
theorem nw_two {n m : Int} {b c : List Int} (hn : 0 < n ∧ n < 18446744073709551616) (hm : 0 < m ∧ m < 18446744073709551616) (hb : b.length ≤ 8388608) (hc : c.length ≤ 8388608) : nwS (recF n b) (recF m c) = if n < m then 1 else 0 := by
  obtain ⟨h1, h2, _⟩ := rec_whole hn hb
  obtain ⟨h3, h4, _⟩ := rec_whole hm hc
  unfold nwS
  rw [h1, h2, h3, h4]
  by_cases h : n < m
  · rw [if_pos h]; simp [h]
  · rw [if_neg h]; simp [h]

structure Kn (A B D : List Int) : Prop where
  b : Bytes A ∧ Bytes B ∧ Bytes D
  l : A.length = 23 ∧ B.length = 23 ∧ D.length = 23
  f0 : nwN [] [] = 0 ∧ nwB [] [] = [] ∧ rdE [] [] = 4
  f1 : wrX [] [] [97] (-1) = A ∧ wrY [] [] [97] (-1) = [] ∧ wrN [] [] [97] (-1) = 1 ∧ wrE [] [] [97] (-1) = 0
  f2 : wrX A [] [98] (-1) = A ∧ wrY A [] [98] (-1) = B ∧ wrN A [] [98] (-1) = 2 ∧ wrE A [] [98] (-1) = 0
  f3 : nwN A B = 2 ∧ nwB A B = [98] ∧ rdE A B = 0
  f4 : wrX A B [99] 5 = A ∧ wrY A B [99] 5 = B ∧ wrN A B [99] 5 = 0 ∧ wrE A B [99] 5 = 8
  f5 : wrX A B [100] (-1) = D ∧ wrY A B [100] (-1) = B ∧ wrN A B [100] (-1) = 3 ∧ wrE A B [100] (-1) = 0
  f6 : nwN D B = 3 ∧ nwB D B = [100] ∧ rdE D B = 0
theorem one_by {x : Int} (h : 0 ≤ x ∧ x < 256) : Bytes [x] := fun y hy => by rw [List.mem_singleton.1 hy]; exact h
theorem rec_by {n : Int} {b : List Int} (h : Bytes b) : Bytes (recF n b) := (headF_by h).app (sumB _)
theorem kn_all : ∃ A B D, Kn A B D := by
  obtain ⟨a1, a2, a3⟩ := rec_whole (n := 1) (b := [97]) (by decide) (by decide)
  obtain ⟨b1, b2, b3⟩ := rec_whole (n := 2) (b := [98]) (by decide) (by decide)
  obtain ⟨d1, d2, d3⟩ := rec_whole (n := 3) (b := [100]) (by decide) (by decide)
  have s0 : nwS [] [] = -1 := nw_nil
  have s1 : nwS (recF 1 [97]) [] = 0 := nw_first (by decide) (by decide)
  have s2 : nwS (recF 1 [97]) (recF 2 [98]) = 1 := nw_two (by decide) (by decide) (by decide) (by decide)
  have s3 : nwS (recF 3 [100]) (recF 2 [98]) = 0 := nw_two (by decide) (by decide) (by decide) (by decide)
  have n0 : nwN [] [] = 0 := by unfold nwN; rw [s0]; rfl
  have n1 : nwN (recF 1 [97]) [] = 1 := by unfold nwN; rw [s1, a2]; rfl
  have n2 : nwN (recF 1 [97]) (recF 2 [98]) = 2 := by unfold nwN; rw [s2, b2]; rfl
  have n3 : nwN (recF 3 [100]) (recF 2 [98]) = 3 := by unfold nwN; rw [s3, d2]; rfl
  have w : ∀ {x y b : List Int}, ¬ wrFull x y → wrX x y b (-1) = (if nwS x y = 0 then x else recF (nwN x y + 1) b) ∧ wrY x y b (-1) = (if nwS x y = 0 then recF (nwN x y + 1) b else y) ∧ wrN x y b (-1) = nwN x y + 1 ∧ wrE x y b (-1) = 0 := by
    intro x y b h
    have t : wrT x y b (-1) = false := by unfold wrT; rfl
    have e : wrW x y b (-1) = recF (nwN x y + 1) b := by unfold wrW; rw [t]; rfl
    unfold wrX wrY wrN wrE
    rw [if_neg h, if_neg h, if_neg h, if_neg h, t, e]; exact ⟨rfl, rfl, rfl, rfl⟩
  refine ⟨recF 1 [97], recF 2 [98], recF 3 [100], ⟨rec_by (one_by (by decide)), rec_by (one_by (by decide)), rec_by (one_by (by decide))⟩, ⟨recF_len _ _, recF_len _ _, recF_len _ _⟩, ⟨n0, by unfold nwB; rw [s0]; rfl, by unfold rdE; rw [s0]; rfl⟩, ?_, ?_, ⟨n2, by unfold nwB; rw [s2, b3]; rfl, by unfold rdE; rw [s2]; rfl⟩, ?_, ?_, ⟨n3, by unfold nwB; rw [s3, d3]; rfl, by unfold rdE; rw [s3]; rfl⟩⟩
  · obtain ⟨e1, e2, e3, e4⟩ := w (x := []) (y := []) (b := [97]) (by unfold wrFull; rw [n0]; decide)
    rw [e1, e2, e3, e4, s0, n0]; exact ⟨rfl, rfl, rfl, rfl⟩
  · obtain ⟨e1, e2, e3, e4⟩ := w (x := recF 1 [97]) (y := []) (b := [98]) (by unfold wrFull; rw [n1]; decide)
    rw [e1, e2, e3, e4, s1, n1]; exact ⟨rfl, rfl, rfl, rfl⟩
  · have hf : ¬ wrFull (recF 1 [97]) (recF 2 [98]) := by unfold wrFull; rw [n2]; decide
    have hl : (wrR (recF 1 [97]) (recF 2 [98]) [99]).length = 23 := by unfold wrR; rw [recF_len]; rfl
    have t : wrT (recF 1 [97]) (recF 2 [98]) [99] 5 = true := by unfold wrT; rw [hl]; rfl
    have hw : wrW (recF 1 [97]) (recF 2 [98]) [99] 5 = recF 1 [97] := by
      unfold wrW wrR
      rw [t, if_pos rfl, s2, n2, if_neg (by decide)]
      have e5 : (recF (2 + 1) [99]).take (5 : Int).toNat = (recF 1 [97]).take 5 := by
        unfold recF headF
        simp only [List.append_assoc]
        rfl
      rw [e5]; exact List.take_append_drop 5 _
    unfold wrX wrY wrN wrE
    rw [if_neg hf, if_neg hf, if_neg hf, if_neg hf, t, hw, s2]; exact ⟨rfl, rfl, rfl, rfl⟩
  · obtain ⟨e1, e2, e3, e4⟩ := w (x := recF 1 [97]) (y := recF 2 [98]) (b := [100]) (by unfold wrFull; rw [n2]; decide)
    rw [e1, e2, e3, e4, s2, n2]; exact ⟨rfl, rfl, rfl, rfl⟩

/-! ### Lengths and bytes of what is written -/
theorem wrX_by {x y b : List Int} {torn : Int} (hx : Bytes x) (hy : Bytes y) (hb : Bytes b) : Bytes (wrX x y b torn) ∧ Bytes (wrY x y b torn) := by
  have hr : Bytes (wrR x y b) := rec_by hb
  have hw : Bytes (wrW x y b torn) := by
    unfold wrW
    split
    · refine (hr.take _).app (Bytes.drop ?_ _)
      split <;> assumption
    · exact hr
  unfold wrX wrY
  constructor
  · split
    · exact hx
    · split
      · exact hx
      · exact hw
  · split
    · exact hy
    · split
      · exact hw
      · exact hy
theorem wr_len {x y b : List Int} {torn : Int} {M : Nat} (hx : x.length ≤ M) (hy : y.length ≤ M) (hb : 22 + b.length ≤ M) : (wrX x y b torn).length ≤ M ∧ (wrY x y b torn).length ≤ M := by
  have hr : (wrR x y b).length = 22 + b.length := recF_len _ _
  have hw : (wrW x y b torn).length ≤ M := by
    unfold wrW
    split
    · rename_i ht
      rw [List.length_append, List.length_take, List.length_drop]
      have : (if nwS x y = 0 then y else x).length ≤ M := by split <;> assumption
      omega
    · omega
  unfold wrX wrY
  constructor
  · split
    · exact hx
    · split
      · exact hx
      · exact hw
  · split
    · exact hy
    · split
      · exact hw
      · exact hy
theorem xor_by {a b : Int} : 0 ≤ bits .xor .u8 a b ∧ bits .xor .u8 a b < 256 := by
  unfold bits
  have h : ∀ n : Int, 0 ≤ IntKind.u8.wrap n ∧ IntKind.u8.wrap n < 256 := fun n => by rw [IntKind.wrap_u8]; omega
  exact h _
theorem spB_by {x : List Int} {a b : Int} (h : Bytes x) : Bytes (spB x a b) := fun y hy => by
  rcases List.mem_or_eq_of_mem_set hy with h1 | h1
  · exact h y h1
  · rw [h1]; exact xor_by
theorem sp_by {x y : List Int} {s a b : Int} (hx : Bytes x) (hy : Bytes y) : Bytes (spX x y s a b) ∧ Bytes (spY x y s a b) := by
  unfold spX spY
  constructor
  · split
    · exact spB_by hx
    · exact hx
  · split
    · exact spB_by hy
    · exact hy
end Go.Proofs.Ytjlgmaappebppaa
