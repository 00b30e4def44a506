/- Logs of bytes: parts of 43, no id twice: plain laws; a slice of three numbers, two results in memory. -/
import Derived.Test.YtpjgmiemamcdhaaLogQ
import Derived.Test.YtpjgmiemamcdhaaLibK
import Derived.Test.YtpjgmiemamcdhaaRecR
import Derived.Test.YtpjgmiemamcdhaaRecS
namespace Go.Proofs.Ytpjgmiemamcdhaa
open Go Go.RowKit

section
variable {c : Cx} {Q : SQ} {env : Env} {ds : List Deferred} {H F : List Res} {dst : Option Tmp} {ty : TypeId} {pos : String} {af : Array Edge} {g : Option (Nat × Bool)}
/-- s[l:h:m]. -/
theorem Yl.slice3L {t e : TypeId} {x y0 y z : Operand} {size n cap : Nat} {ao : Option Addr} {l h m : Nat} {k0 k k' : IntKind} (hu : c.P.underlying t = some (.slice e)) (hsz : (c.P.info? e).map (·.size) = some size)
    (hx : ev env x = some (.slice ao n cap)) (hl : ev env y0 = some (.int k0 (l : Int))) (hy : ev env y = some (.int k (h : Int))) (hz : ev env z = some (.int k' (m : Int)))
    (h0 : l ≤ h) (h1 : h ≤ m) (h2 : m ≤ cap) : Yl c env ds H ⟨dst, .slice t x (some y0) (some y) (some z), ty, pos, af, g⟩ (subS (.slice ao n cap) l h m size) := fun a w ha _ => by
  cases hi' : c.P.info? e with
  | none => simp [hi'] at hsz
  | some i =>
    have hs : i.size = size := by simpa [hi'] using hsz
    simp [execOp, ha.ev hx, ha.ev hl, ha.ev hy, ha.ev hz, Instr.sliceAt, Instr.slice, run_underlying hu, Instr.sliceBounds, Instr.sliceBound, asIntOf, sizeOf, typeInfo, hi', hs, subS, h0, h1, h2]
/-- Two results, in memory both, of one cell each. -/
theorem retVV {fn : Func} {R : Ending → World → Prop} {e : Exit} {H F F2 : List Res} {t T b u U b2 : Nat} {T' T2 : TypeId} {cs cs2 : List Value} {v x : Value} (he : e = .normal ∨ e = .ret) (hr : fn.results = #[.cell t T, .cell u U]) (ha : isOne c.P T = true) (ho : isOne c.P U = true)
    (hv : Env.get env t = some (.pointer (some ⟨b, 0, none⟩))) (hx : Env.get env u = some (.pointer (some ⟨b2, 0, none⟩))) (tk : Take1 H (blkR b T' (v :: cs)) F) (tk2 : Take1 H (blkR b2 T2 (x :: cs2)) F2) (h : ∀ w, OK c.w0 c.S H w → R (.returned (.tuple #[v, x])) w) : retS c fn R e env [] H := by
  refine retG he (fun tmps w ht hw => ?_) h
  have h1 : (loadVar T ⟨b, 0, none⟩).run c.P w = .ok v w := by
    have := run_loadAt_one (P := c.P) ha (a := ⟨b, 0, none⟩) (v := v) (w := w) (by simpa using hw.cells tk 0 v rfl)
    simpa [Instr.loadAt, Instr.sureAddr] using this
  have h2 : (loadVar U ⟨b2, 0, none⟩).run c.P w = .ok x w := by
    have := run_loadAt_one (P := c.P) ho (a := ⟨b2, 0, none⟩) (v := x) (w := w) (by simpa using hw.cells tk2 0 x rfl)
    simpa [Instr.loadAt, Instr.sureAddr] using this
  simp [results, hr, ht t _ hv, ht u _ hx, asAddr, h1, h2]
end

theorem Rd.sub3L {w : World} {size : Nat} {ao : Option Addr} {n cap : Nat} {cs : List Value} (r : Rd w size (.slice ao n cap) n cs) (l h : Nat) (h1 : l < h) (h2 : h ≤ n) :
    Rd w size (subS (.slice ao n cap) l h h size) (h - l) ((cs.drop (l * size)).take ((h - l) * size)) := by
  have s := r.sub l h (by omega) h2
  rcases r.2 with ⟨_, h0⟩ | ⟨a, cap', he, k1, k2, k3⟩
  · omega
  · cases he
    have e1 : subS (.slice (some a) n cap) l h cap size = .slice (some (a.add (l * size))) (h - l) (cap - l) := by
      unfold subS; dsimp only; rw [if_neg (by omega)]; rfl
    have e2 : subS (.slice (some a) n cap) l h h size = .slice (some (a.add (l * size))) (h - l) (h - l) := by
      unfold subS; dsimp only; rw [if_neg (by omega)]; rfl
    rw [e1] at s
    rw [e2]
    rcases s.2 with ⟨hq, _⟩ | ⟨a', c', hq, q1, q2, q3⟩
    · cases hq
    · cases hq
      exact ⟨s.1, .inr ⟨_, h - l, rfl, Nat.le_refl _, by omega, q3⟩⟩

/-! ### Parts of 43 -/
def partN (n : Nat) : Nat := (n + 42) / 43
def partE (n i : Nat) : Nat := 43 * i + min 43 (n - 43 * i)
def partV (al : Option Addr) (n cl i : Nat) : Value := subS (.slice al n cl) (43 * i) (partE n i) (partE n i) 1
def partYs (al : Option Addr) (n cl : Nat) : List (Array Value) := (List.range (partN n)).map fun i => #[partV al n cl i]
theorem partYs_len (al : Option Addr) (n cl : Nat) : (partYs al n cl).length = partN n := by simp [partYs]
theorem partYs_get {al : Option Addr} {n cl i : Nat} (h : 43 * i < n) : (partYs al n cl)[i]? = some #[partV al n cl i] := by
  have : i < partN n := by unfold partN; omega
  simp [partYs, this]
theorem partYs_size {al : Option Addr} {n cl : Nat} : ∀ x ∈ partYs al n cl, x.size = 1 := by
  intro x hx
  obtain ⟨i, _, rfl⟩ := List.mem_map.1 hx
  rfl
theorem partYs_at {al : Option Addr} {n cl i : Nat} {x : Array Value} (h : (partYs al n cl)[i]? = some x) : 43 * i < n ∧ x = #[partV al n cl i] := by
  have hl := (List.getElem?_eq_some_iff.1 h).1
  rw [partYs_len] at hl
  have h2 : 43 * i < n := by unfold partN at hl; omega
  rw [partYs_get h2] at h
  exact ⟨h2, (Option.some.inj h).symm⟩
theorem chunk_min (bs : List Int) (i : Nat) : (chunk bs i).length = min 43 (bs.length - 43 * i) := by simp [chunk]
theorem RdOf.part {r : Res} {al : Option Addr} {cl i : Nat} {bs : List Int} (hx : RdOf r (.slice al bs.length cl) 1 bs.length (ints .u8 bs)) (h : 43 * i < bs.length) : RdOf r (partV al bs.length cl i) 1 (chunk bs i).length (ints .u8 (chunk bs i)) :=
  ⟨fun w hw => by
    have := (hx.rd w hw).sub3L (43 * i) (partE bs.length i) (by unfold partE; omega) (by unfold partE; omega)
    have e : partE bs.length i - 43 * i = (chunk bs i).length := by rw [chunk_min]; unfold partE; omega
    rw [e, Nat.mul_one, Nat.mul_one, ints_drop, ints_take] at this
    have e2 : (bs.drop (43 * i)).take (chunk bs i).length = chunk bs i := by
      unfold chunk; rw [List.length_take, List.take_eq_take_iff]; simp
    rw [e2] at this
    exact this⟩

/-! ### No id twice -/
def recsOf (bs : List Int) (n : Nat) : List Rc := (List.range n).map (recAt bs)
theorem recsOf_len (bs : List Int) (n : Nat) : (recsOf bs n).length = n := by simp [recsOf]
theorem recsOf_succ (bs : List Int) (n : Nat) : recsOf bs (n + 1) = recsOf bs n ++ [recAt bs n] := by simp [recsOf, List.range_succ]
theorem recsOf_get {bs : List Int} {n i : Nat} (h : i < n) : (recsOf bs n)[i]? = some (recAt bs i) := by simp [recsOf, h]
theorem recsOf_cells (bs : List Int) (n : Nat) : vcs rcV (recsOf bs n) = recCells bs n := by
  induction n with
  | zero => rfl
  | succ n ih => rw [recsOf_succ, recCells_succ, vcs_app, ih, vcs_one]; rfl
theorem recsOf_take {bs : List Int} {n i : Nat} (h : i ≤ n) : (recsOf bs n).take i = recsOf bs i := by
  unfold recsOf; rw [← List.map_take, List.take_range, Nat.min_eq_left h]
theorem recsOf_ok {bs : List Int} (hB : Bytes bs) {n : Nat} (h : n ≤ recN bs) : ROk (recsOf bs n) := by
  intro r hr
  obtain ⟨i, hi, rfl⟩ := List.mem_map.1 hr
  exact recAt_ok hB (by have := List.mem_range.1 hi; omega)
theorem recsOf_may {bs : List Int} {n : Nat} (h : n ≤ recN bs) : ∀ r ∈ recsOf bs n, mayB r = true := by
  intro r hr
  obtain ⟨i, hi, rfl⟩ := List.mem_map.1 hr
  have := (recN_fit (bs := bs) (i := i) (by have := List.mem_range.1 hi; omega)).2
  unfold goodB at this
  simp only [Bool.and_eq_true] at this
  exact this.2
def idsOf (xs : List Rc) : List (List Int) := xs.map Rc.id
def okL (bs : List Int) : Bool := decide (43 * recN bs = bs.length) && decide (idsOf (recsOf bs (recN bs))).Nodup
theorem okL_short {bs : List Int} (h : 43 * recN bs ≠ bs.length) : okL bs = false := by simp [okL, h]
theorem okL_twice {bs : List Int} {i k : Nat} (hi : i < recN bs) (hk : k < i) (h : (recAt bs k).id = (recAt bs i).id) : okL bs = false := by
  have : ¬ (idsOf (recsOf bs (recN bs))).Nodup := fun hn => by
    have h1 : (idsOf (recsOf bs (recN bs)))[k]? = some (recAt bs k).id := by unfold idsOf; rw [List.getElem?_map, recsOf_get (by omega)]; rfl
    have h2 : (idsOf (recsOf bs (recN bs)))[i]? = some (recAt bs i).id := by unfold idsOf; rw [List.getElem?_map, recsOf_get hi]; rfl
    obtain ⟨l1, e1⟩ := List.getElem?_eq_some_iff.1 h1
    obtain ⟨l2, e2⟩ := List.getElem?_eq_some_iff.1 h2
    exact List.pairwise_iff_getElem.1 hn k i l1 l2 hk (by rw [e1, e2, h])
  simp [okL, this]
theorem okL_yes {bs : List Int} (h : 43 * recN bs = bs.length) (hn : (idsOf (recsOf bs (recN bs))).Nodup) : okL bs = true := by simp [okL, h, hn]
theorem ids_succ {bs : List Int} {i : Nat} (h : (idsOf (recsOf bs i)).Nodup) (hn : (recAt bs i).id ∉ idsOf (recsOf bs i)) : (idsOf (recsOf bs (i + 1))).Nodup := by
  rw [recsOf_succ]
  unfold idsOf at h hn ⊢
  rw [List.map_append]
  refine List.nodup_append.2 ⟨h, by simp, fun a ha b hb e => hn ?_⟩
  simp at hb
  rw [← hb, ← e]; exact ha
theorem ids_mem {bs : List Int} {i : Nat} {id : List Int} (h : id ∈ idsOf (recsOf bs i)) : ∃ k, k < i ∧ (recAt bs k).id = id := by
  obtain ⟨r, hr, rfl⟩ := List.mem_map.1 h
  obtain ⟨k, hk, rfl⟩ := List.mem_map.1 hr
  exact ⟨k, List.mem_range.1 hk, rfl⟩
/-- The set of ids. -/
def idM (xs : List (List Int)) : List (List Int × Unit) := xs.map fun k => (k, ())
def kvI (k : List Int) : Value := .agg (ints .u8 k).toArray
def vvU (_ : Unit) : Value := .agg #[]
theorem idM_get (xs : List (List Int)) (k : List Int) : (mget (idM xs) k).isSome = decide (k ∈ xs) := by
  cases h : mget (idM xs) k with
  | none =>
    have := mget_none.1 h
    rw [decide_eq_false]; rfl
    intro hk
    exact this (k, ()) (List.mem_map.2 ⟨k, hk, rfl⟩) rfl
  | some u =>
    rw [decide_eq_true]; rfl
    apply Classical.byContradiction
    intro hk
    rw [mget_none.2 (fun p hp e => by obtain ⟨x, hx, rfl⟩ := List.mem_map.1 hp; exact hk (by rw [← e]; exact hx))] at h
    cases h
theorem idM_put {xs : List (List Int)} {k : List Int} (h : k ∉ xs) : mput (idM xs) k () = idM (xs ++ [k]) := by
  unfold mput
  rw [idM_get, decide_eq_false h]
  simp [idM]
theorem unit_get {m : Option Unit} : (m.map vvU).getD (.agg #[]) = .agg #[] := by cases m <;> rfl
end Go.Proofs.Ytpjgmiemamcdhaa
