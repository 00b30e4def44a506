/- The slots and the script that came in. -/
import Derived.Test.YtjlgmaappebppaaDiskJ
import Derived.Test.YtjlgmaappebppaaLibL
namespace Go.Proofs.Ytjlgmaappebppaa
open Go Go.RowKit

section
variable {P : Program} {w : World} {base : Nat} {sp : Nat → Bool} {held : Bool} {H : Type} {enc : TypeId × Value → H}
theorem okWide_arr {r : Reach} {t e : TypeId} {n : Nat} {v : Value} (ht : P.underlying t = some (.array n e)) (h : Value.okWide P w r base t v) : ∃ cs : List Value, v = .agg cs.toArray := by
  simp only [Value.okWide, ht] at h
  obtain ⟨cs, rfl, _⟩ := h
  exact ⟨cs.toList, by simp⟩
theorem open_partB {e u : TypeId} {fuel : Nat} {cs : List Value} {y : DataW H × List MemPlace} (ht : P.underlying e = some (.slice u)) (he : P.underlying u = some (.int .u8)) (hc : P.cellsOf u = 1) (hb : 0 < P.bytesOf u) (hy : DataW.trod enc P w base sp held fuel e cs = some y) (hs : ∀ n ∈ y.1.weights P e, n ≤ reachBytes) :
    ∃ (a : Option Addr) (cap : Nat) (xs : List Int), cs = [.slice a xs.length cap] ∧ (∀ y ∈ xs, 0 ≤ y ∧ y < 256) ∧ xs.length ≤ reachBytes ∧ Rd w 1 (.slice a xs.length cap) xs.length (ints .u8 xs) := by
  rcases Go.Deep.open_slice ht hy with ⟨h0, _⟩ | ⟨a, len, cap, m', n, D, Pl, h0, _⟩
  · exact ⟨none, 0, [], h0, (fun _ h => by cases h), Nat.zero_le _, Rd.nil w 1⟩
  · rw [h0] at hy
    have hl := sliceLen ht hb (x := y.1) (p := y.2) hy hs
    obtain ⟨xs, rfl, h1, h2⟩ := open_u8s ht he hc (show DataW.Trod enc P w base sp held e (.slice (some a) len cap) y.1 y.2 from ⟨fuel, by simpa [Value.cells] using hy⟩)
    exact ⟨some a, cap, xs, h0, h1, hl, h2⟩
theorem open_two {t e u : TypeId} {cs : List Value} {x : DataW H} {p : List MemPlace} (ht : P.underlying t = some (.array 2 e)) (he : P.underlying e = some (.slice u)) (hu : P.underlying u = some (.int .u8)) (hce : P.cellsOf e = 1) (hct : P.cellsOf t = 2) (hc : P.cellsOf u = 1) (hb : 0 < P.bytesOf u)
    (hs : ∀ n ∈ x.weights P t, n ≤ reachBytes) (h : DataW.Trod enc P w base sp held t (.agg cs.toArray) x p) :
    ∃ (a0 : Option Addr) (c0 : Nat) (xs : List Int) (a1 : Option Addr) (c1 : Nat) (ys : List Int), cs = [.slice a0 xs.length c0, .slice a1 ys.length c1] ∧ (∀ y ∈ xs, 0 ≤ y ∧ y < 256) ∧ (∀ y ∈ ys, 0 ≤ y ∧ y < 256) ∧ xs.length ≤ reachBytes ∧ ys.length ≤ reachBytes ∧
      Rd w 1 (.slice a0 xs.length c0) xs.length (ints .u8 xs) ∧ Rd w 1 (.slice a1 ys.length c1) ys.length (ints .u8 ys) := by
  obtain ⟨fuel, h⟩ := h
  obtain ⟨zs, m, rfl, hx, hl, hzl, hi⟩ := DataW.trod_array ht h
  have hx1 : x = .agg (zs.map (·.1)) := congrArg Prod.fst hx
  have hz2 : ∃ z0 z1, zs = [z0, z1] := by
    match zs, hzl with
    | [a, b], _ => exact ⟨a, b, rfl⟩
  obtain ⟨z0, z1, rfl⟩ := hz2
  · have w0 : ∀ n ∈ z0.1.weights P e, n ≤ reachBytes := fun n hn => hs n (by
      rw [hx1]; simp only [DataW.weights, ht]
      exact weightsAll_mem (d := z0.1) (by simp) hn)
    have w1 : ∀ n ∈ z1.1.weights P e, n ≤ reachBytes := fun n hn => hs n (by
      rw [hx1]; simp only [DataW.weights, ht]
      exact weightsAll_mem (d := z1.1) (by simp) hn)
    have i0 := hi 0 (by decide)
    have i1 := hi 1 (by decide)
    rw [hce] at i0 i1
    obtain ⟨a0, c0, xs, e0, b0, l0, r0⟩ := open_partB he hu hc hb i0 w0
    obtain ⟨a1, c1, ys, e1, b1, l1, r1⟩ := open_partB he hu hc hb i1 w1
    refine ⟨a0, c0, xs, a1, c1, ys, ?_, b0, b1, l0, l1, r0, r1⟩
    have hl2 : cs.length = 2 := by rw [← hct, ← hl]; simp [Value.cells]
    match cs, hl2 with
    | [u0, u1], _ =>
      simp [Value.cells] at e0 e1
      rw [e0, e1]
end
section
variable {H : Type} {enc : TypeId × Value → H} {w : World} {base : Nat} {sp : Nat → Bool} {held : Bool}
theorem open_dw (n : Nat) (cs : List Value) (d : DataW H × List MemPlace) (h : DataW.trod enc Try.prog w base sp held n 30 cs = some d) (hs : ∀ k ∈ d.1.weights Try.prog 30, k ≤ reachBytes) :
    ∃ f : Dw, cs = f.cells ∧ (f.ok ∧ f.b.length ≤ reachBytes) ∧ Rd w 1 (.slice f.ba f.b.length f.bc) f.b.length (ints .u8 f.b) := by
  have hl := (open_fieldAtL (i := 0) (ft := 5) (off := 0) (c := 1) (by kernel_rfl) h).1
  rw [show Try.prog.cellsOf 30 = 6 by kernel_rfl] at hl
  obtain ⟨k, e0, w0⟩ := fits_int (open_fieldFL (i := 0) (ft := 5) (off := 0) (c := 1) (d := 5) (ks := [some .u8]) (by kernel_rfl) (by kernel_rfl) h)
  obtain ⟨ba, bc, b, e1, w1, l1, r1⟩ := open_fieldBL (i := 1) (ft := 22) (off := 1) (c := 1) (e := 5) (by kernel_rfl) (by kernel_rfl) (by kernel_rfl) (by kernel_rfl) (of_decide_eq_true (by kernel_rfl)) h hs
  obtain ⟨tr, e2, w2⟩ := fits_int (open_fieldFL (i := 2) (ft := 3) (off := 2) (c := 1) (d := 5) (ks := [some .i64]) (by kernel_rfl) (by kernel_rfl) h)
  obtain ⟨sl, e3, w3⟩ := fits_int (open_fieldFL (i := 3) (ft := 3) (off := 3) (c := 1) (d := 5) (ks := [some .i64]) (by kernel_rfl) (by kernel_rfl) h)
  obtain ⟨a, e4, w4⟩ := fits_int (open_fieldFL (i := 4) (ft := 3) (off := 4) (c := 1) (d := 5) (ks := [some .i64]) (by kernel_rfl) (by kernel_rfl) h)
  obtain ⟨wv, e5, w5⟩ := fits_int (open_fieldFL (i := 5) (ft := 5) (off := 5) (c := 1) (d := 5) (ks := [some .u8]) (by kernel_rfl) (by kernel_rfl) h)
  refine ⟨⟨k, ba, bc, b, tr, sl, a, wv⟩, ?_, ⟨⟨wf_u8 w0, w1, wf_i64' w2, wf_i64' w3, wf_i64' w4, wf_u8 w5⟩, l1⟩, r1⟩
  have s0 := step_drop 0 1 _ e0
  have s1 := step_drop 1 1 _ e1
  have s2 := step_drop 2 1 _ e2
  have s3 := step_drop 3 1 _ e3
  have s4 := step_drop 4 1 _ e4
  have s5 := step_drop 5 1 _ e5
  have s6 : cs.drop 6 = [] := List.drop_eq_nil_iff.2 (by omega)
  rw [List.drop_zero] at s0
  rw [s0, s1, s2, s3, s4, s5, s6]
  rfl
theorem open_dws {a : Option Addr} {len cap : Nat} {x : DataW H} {p : List MemPlace} (hs : ∀ n ∈ x.weights Try.prog 24, n ≤ reachBytes) (h : DataW.Trod enc Try.prog w base sp held 24 (.slice a len cap) x p) :
    ∃ fs : List Dw, fs.length = len ∧ (∀ f ∈ fs, f.ok ∧ f.b.length ≤ reachBytes) ∧ (dwR (.slice a len cap) fs).ok w := by
  obtain ⟨fs, h1, _, h3, h4⟩ := open_rows (size := 6) Dw.cells (fun f => (f.ok ∧ f.b.length ≤ reachBytes) ∧ Rd w 1 (.slice f.ba f.b.length f.bc) f.b.length (ints .u8 f.b)) (by kernel_rfl) (by kernel_rfl) (of_decide_eq_true (by kernel_rfl)) open_dw hs h
  refine ⟨fs, h1, fun f hf => (h3 f hf).1, fun r hr => ?_⟩
  rcases List.mem_cons.1 hr with rfl | hr
  · subst h1; show Rd w 6 _ _ _; rw [← dw_flat]; exact h4
  · obtain ⟨f, hf, rfl⟩ := List.mem_map.1 hr
    exact (h3 f hf).2
end
end Go.Proofs.Ytjlgmaappebppaa
