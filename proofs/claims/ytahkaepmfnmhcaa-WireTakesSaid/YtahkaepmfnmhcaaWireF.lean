/- Fields, as cells and as a source; what they put: plain laws. -/
import Derived.Test.YtahkaepmfnmhcaaWireN
import Derived.Test.YtahkaepmfnmhcaaLibQ
import Derived.Test.YtahkaepmfnmhcaaLibO
namespace Go.Proofs.Ytahkaepmfnmhcaa
open Go Go.RowKit

structure Fd where
  kind : Int
  n : Int
  ba : Option Addr
  bc : Nat
  b : List Int
  la : Option Addr
  lc : Nat
  l : List Int
  most : Int
def Fd.cells (f : Fd) : List Value := [.int .u8 f.kind, .int .u64 f.n, .slice f.ba f.b.length f.bc, .slice f.la f.l.length f.lc, .int .i64 f.most]
def Fd.val (f : Fd) : Value := .agg f.cells.toArray
structure Fd.ok (f : Fd) : Prop where
  kind : 0 ≤ f.kind ∧ f.kind < 256
  n : 0 ≤ f.n ∧ f.n < 18446744073709551616
  b : Bytes f.b
  l : ∀ x ∈ f.l, 0 ≤ x ∧ x < 4294967296
  most : -9223372036854775808 ≤ f.most ∧ f.most ≤ 9223372036854775807
theorem Fd.ones (f : Fd) : ∀ v ∈ f.cells, v.oneCell' = true := by
  intro v hv
  simp only [Fd.cells, List.mem_cons, List.not_mem_nil, or_false] at hv
  rcases hv with rfl | rfl | rfl | rfl | rfl <;> rfl

/-- Fields that may be read, whatever blocks of T change. -/
structure FdS (w : World) (T : Pm) (v : Value) (fs : List Fd) : Prop where
  rows : RdS w T v 5 fs.length (vcs Fd.val fs)
  b : ∀ f ∈ fs, RdS w T (.slice f.ba f.b.length f.bc) 1 f.b.length (ints .u8 f.b)
  l : ∀ f ∈ fs, RdS w T (.slice f.la f.l.length f.lc) 1 f.l.length (ints .u32 f.l)
structure FdOf (r : Res) (v : Value) (fs : List Fd) : Prop where
  rows : RdOf r v 5 fs.length (vcs Fd.val fs)
  b : ∀ f ∈ fs, RdOf r (.slice f.ba f.b.length f.bc) 1 f.b.length (ints .u8 f.b)
  l : ∀ f ∈ fs, RdOf r (.slice f.la f.l.length f.lc) 1 f.l.length (ints .u32 f.l)
section
variable {c : Cx} {A F : List Res}
theorem OK.srcF {F' : List Res} {w : World} {r : Res} {v : Value} {fs : List Fd} (hw : OK c.w0 c.S (A ++ F) w) (h : FdOf r v fs) (t : Take1 F r F') : FdS w (fpL A) v fs :=
  ⟨hw.src h.rows t, fun f hf => hw.src (h.b f hf) t, fun f hf => hw.src (h.l f hf) t⟩
theorem OK.srcFS {w : World} {v : Value} {fs : List Fd} (hw : OK c.w0 c.S (A ++ F) w) (h : FdS c.w0 c.S v fs) : FdS w (fpL A) v fs :=
  ⟨hw.srcS h.rows, fun f hf => hw.srcS (h.b f hf), fun f hf => hw.srcS (h.l f hf)⟩
end

/-- Resources that are held together, to be read. -/
def allR (A : List Res) : Res where
  fp := fun k => ∃ r ∈ A, r.fp k
  wr := noB
  sub := fun _ h => h.elim
  ok := fun w => ∀ r ∈ A, r.ok w
  lt := fun w h k ⟨r, hr, hk⟩ => r.lt w (h r hr) k hk
  st := fun w w' D h hc hd r hr => r.st w w' D (h r hr) hc (fun k hk => hd k ⟨r, hr, hk⟩)
theorem RdOf.all {A : List Res} {r : Res} {v : Value} {size n : Nat} {cs : List Value} (h : RdOf r v size n cs) (hr : r ∈ A) : RdOf (allR A) v size n cs := ⟨fun w hw => h.rd w (hw r hr)⟩

theorem cellV {P : Program} {e : TypeId} {s : Nat} {α : Type} {G : α → Prop} {val : α → Value} (h : VT P e s G val) {xs : List α} (hG : ∀ x ∈ xs, G x) {j k : Nat} {x : α} {u : Value} (hj : xs[j]? = some x) (hk : k < s) (he : (val x).cells.toList[k]? = some u) : (vcs val xs)[j * s + k]? = some u := by
  rw [← h.at hG hj, List.getElem?_take, if_pos hk, List.getElem?_drop] at he
  exact he

theorem fixedOne {w : World} {T : Pm} {v : Value} {c : List Int} (h : RdS w T v 1 c.length (ints .u8 c)) : ∀ (i : Nat) (v' : Value) (c' : List Int), [v][i]? = some v' → [c][i]? = some c' → RdS w T v' 1 c'.length (ints .u8 c') := by
  intro i v' c' h1 h2
  cases i with
  | zero => simp at h1 h2; subst h1 h2; exact h
  | succ i => simp at h1

/-! ### What fields put -/
def putF (lim : Int) (st : List Int × Bool) (f : Fd) : List Int × Bool :=
  if f.kind = 0 then pt lim st [f.n % 256]
  else if f.kind = 1 then pt lim st (be (f.n % 4294967296) 4)
  else if f.kind = 2 then pt lim st (be f.n 8)
  else if f.kind = 3 then pt lim st (flagB (decide (f.n ≠ 0)))
  else if f.kind = 4 then pt lim st f.b
  else if f.kind = 5 then pt lim (mny lim st f.most f.b.length) f.b
  else if f.kind = 6 then pts lim (mny lim (st.1, st.2 || decide (f.most < 0)) f.most f.l.length) (b4 f.l)
  else st
def puts (lim : Int) (st : List Int × Bool) (fs : List Fd) : List Int × Bool := fs.foldl (putF lim) st
theorem puts_snoc (lim : Int) (st : List Int × Bool) (fs : List Fd) (f : Fd) : puts lim st (fs ++ [f]) = putF lim (puts lim st fs) f := by simp [puts]
def szF (f : Fd) : Nat := 10 + f.b.length + 4 * f.l.length
def szs (fs : List Fd) : Nat := (fs.map szF).foldr (· + ·) 0
theorem szs_take {fs : List Fd} {i : Nat} {f : Fd} (h : fs[i]? = some f) : szs (fs.take i) + szF f ≤ szs fs := by
  induction fs generalizing i with
  | nil => simp at h
  | cons y l ih =>
    cases i with
    | zero => simp at h; subst h; simp [szs]
    | succ i =>
      have := ih (by simpa using h)
      simp [szs] at this ⊢
      omega
theorem mny_fit {lim : Int} {bs : List Int} {wr : Bool} (h : Fit lim (bs, wr)) (w2 : Bool) (most : Int) (n : Nat) : Fit lim (mny lim (bs, w2) most n) := by
  unfold mny
  refine pt_fit ?_ _
  exact h
theorem mny_len (lim : Int) (st : List Int × Bool) (most : Int) (n : Nat) : (mny lim st most n).1.length ≤ st.1.length + 2 := by
  have := pt_len lim (st.1, st.2 || decide ((if (65535 : Int) < most then 65535 else most) < (n : Int))) (be (IntKind.u16.wrap (n : Int)) 2)
  rw [be_len] at this
  exact this
theorem mny_wr (lim : Int) (bs : List Int) (most : Int) (n : Nat) : mny lim (bs, true) most n = (bs, true) := by unfold mny; rw [Bool.true_or]; exact pt_true _ _ _
theorem pts_wr {lim : Int} {st : List Int × Bool} (h : st.2 = true) : ∀ (l : List (List Int)), pts lim st l = st
  | [] => rfl
  | x :: l => by
    obtain ⟨a, b⟩ := st
    cases h
    show pts lim (pt lim (a, true) x) l = _
    rw [pt_true]
    exact pts_wr rfl l
theorem total_b4 (l : List Int) : total (b4 l) = 4 * l.length := by
  induction l with
  | nil => rfl
  | cons x l ih =>
    have e : total (b4 (x :: l)) = (be x 4).length + total (b4 l) := rfl
    rw [e, ih, be_len, List.length_cons]; omega
theorem putF_fit {lim : Int} {st : List Int × Bool} (h : Fit lim st) (f : Fd) : Fit lim (putF lim st f) := by
  obtain ⟨a, b⟩ := st
  unfold putF
  split
  · exact pt_fit h _
  split
  · exact pt_fit h _
  split
  · exact pt_fit h _
  split
  · exact pt_fit h _
  split
  · exact pt_fit h _
  split
  · exact pt_fit (mny_fit h _ _ _) _
  split
  · exact pts_fit _ (mny_fit h _ _ _)
  · exact h
theorem putF_len (lim : Int) (st : List Int × Bool) (f : Fd) : (putF lim st f).1.length ≤ st.1.length + szF f := by
  unfold putF szF
  split
  · have := pt_len lim st [f.n % 256]; simp at this; omega
  split
  · have := pt_len lim st (be (f.n % 4294967296) 4); rw [be_len] at this; omega
  split
  · have := pt_len lim st (be f.n 8); rw [be_len] at this; omega
  split
  · have := pt_len lim st (flagB (decide (f.n ≠ 0))); rw [show (flagB (decide (f.n ≠ 0))).length = 1 from rfl] at this; omega
  split
  · have := pt_len lim st f.b; omega
  split
  · have := pt_len lim (mny lim st f.most f.b.length) f.b; have := mny_len lim st f.most f.b.length; omega
  split
  · have h1 := pts_len (lim := lim) (b4 f.l) (mny lim (st.1, st.2 || decide (f.most < 0)) f.most f.l.length)
    have h2 := mny_len lim (st.1, st.2 || decide (f.most < 0)) f.most f.l.length
    rw [total_b4] at h1
    dsimp only at h2
    omega
  · omega
theorem puts_fit {lim : Int} : ∀ (fs : List Fd) {st : List Int × Bool}, Fit lim st → Fit lim (puts lim st fs)
  | [], _, h => h
  | f :: fs, _, h => puts_fit fs (putF_fit h f)
theorem puts_len {lim : Int} : ∀ (fs : List Fd) (st : List Int × Bool), (puts lim st fs).1.length ≤ st.1.length + szs fs
  | [], st => by simp [puts, szs]
  | f :: fs, st => by
    have h1 := puts_len (lim := lim) fs (putF lim st f)
    have h2 := putF_len lim st f
    have e : szs (f :: fs) = szF f + szs fs := rfl
    rw [e]
    show (puts lim (putF lim st f) fs).1.length ≤ _
    omega
/-- How much they weigh. -/
def wtF (f : Fd) : Nat := 1 + f.b.length / 8 + f.l.length
def wts (fs : List Fd) : Nat := (fs.map wtF).foldr (· + ·) 0
theorem szs_wts (fs : List Fd) : szs fs ≤ 18 * wts fs := by
  induction fs with
  | nil => simp [szs, wts]
  | cons f fs ih =>
    have e : szs (f :: fs) = szF f + szs fs := rfl
    have e2 : wts (f :: fs) = wtF f + wts fs := rfl
    rw [e, e2]
    unfold szF wtF
    omega
theorem len_wts (fs : List Fd) : fs.length ≤ wts fs := by
  induction fs with
  | nil => simp [wts]
  | cons f fs ih =>
    have e2 : wts (f :: fs) = wtF f + wts fs := rfl
    rw [e2, List.length_cons]
    unfold wtF
    omega
theorem wts_take {fs : List Fd} {i : Nat} {f : Fd} (h : fs[i]? = some f) : wts (fs.take (i + 1)) = wts (fs.take i) + wtF f := by
  induction fs generalizing i with
  | nil => simp at h
  | cons y l ih =>
    cases i with
    | zero => simp at h; subst h; simp [wts]
    | succ i =>
      have := ih (by simpa using h)
      simp [wts] at this ⊢
      omega
theorem wts_le (fs : List Fd) (i : Nat) : wts (fs.take i) ≤ wts fs := by
  induction fs generalizing i with
  | nil => simp
  | cons y l ih =>
    cases i with
    | zero => simp [wts]
    | succ i => have := ih i; simp [wts] at this ⊢; omega
theorem wts_mem {fs : List Fd} {f : Fd} (h : f ∈ fs) : wtF f ≤ wts fs := by
  induction fs with
  | nil => cases h
  | cons y l ih =>
    have e2 : wts (y :: l) = wtF y + wts l := rfl
    rw [e2]
    rcases List.mem_cons.1 h with rfl | h
    · omega
    · have := ih h; omega
end Go.Proofs.Ytahkaepmfnmhcaa
