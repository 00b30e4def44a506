/- Rows of uint32 compared: the walk. -/
import Derived.Test.YtbgimajbehodnaaGreatDoorRepC
import Derived.Test.YtbgimajbehodnaaGreatDoorRepQ
import Derived.Test.YtbgimajbehodnaaGreatDoorLibK
import Derived.Test.YtbgimajbehodnaaGreatDoorRepF
import Derived.Test.YtbgimajbehodnaaGreatDoorRepM
import Derived.Test.YtbgimajbehodnaaGreatDoorRepZ
import Derived.Test.YtbgimajbehodnaaGreatDoorLibRg
import Derived.Test.YtbgimajbehodnaaGreatDoorLibZ
import Derived.Test.YtbgimajbehodnaaGreatDoorLibM
import Derived.Test.YtbgimajbehodnaaGreatDoorRows
import Derived.Lib.LaidTab
import Derived.LaidSub
import Derived.Shelf.Vars
namespace Go.Proofs.YtbgimajbehodnaaGreatDoor
open Go Go.RowKit
theorem take_nextU {xs ys : List Int} {j : Nat} {x y : Int} (h : xs.take j = ys.take j) (hx : xs[j]? = some x) (hy : ys[j]? = some y) : xs.take (j + 1) = ys.take (j + 1) ↔ x = y := by
  rw [← take_snoc _ _ _ hx, ← take_snoc _ _ _ hy, h]
  simp
theorem equalU_any (v1 v2 : Value) (xs ys : List Int) (hl : xs.length ≤ 1099511627776) (w : World) (hx : RdS w (fpL []) v1 1 xs.length (ints .u32 xs)) (hy : RdS w (fpL []) v2 1 ys.length (ints .u32 ys)) (hw : OK w (fpL []) [] w) :
    Fn Tryz.prog 12 [v1, v2] [] w (fun _ : Unit => True) (fun _ => .bool (decide (xs = ys))) (fun _ => []) := by
  obtain ⟨al, cl, rfl, hcl, hml⟩ := hx.rd.form
  obtain ⟨bl, dl, rfl, hdl, hml2⟩ := hy.rd.form
  refine enterF Tryz.func12 rfl Tryz.ntmps12 rfl hw ?_
  refine WC.seq ?_
  refine WC.region ?_
  refine WL.y (Yl.assign rfl) rfl ?_
  refine WL.nil ?_
  refine WC.seq ?_
  refine WC.seq ?_
  refine WC.region ?_
  refine WL.y (Yl.move rfl) rfl ?_
  refine WL.y (Yl.len un22 rfl) rfl ?_
  refine WL.y (Yl.move rfl) rfl ?_
  refine WL.y (Yl.len un22 rfl) rfl ?_
  refine WL.y (Yl.neq rfl rfl) rfl ?_
  refine WL.nil ?_
  refine WC.condD rfl (fun g10 => ?_) (fun g10 => ?_)
  · refine WC.seq ?_
    refine WC.region ?_
    refine WL.y (Yl.assign rfl) rfl ?_
    refine WL.nil ?_
    refine WC.ret ?_
    repeat (with_reducible (first | refine peelT ?_ | refine peelB ?_ | refine peelTX ?_ | refine peelBX ?_ | refine peelBN ?_ | refine peelBO rfl ?_))
    have hne : ¬ xs = ys := fun e => by
      have := g10
      rw [e] at this
      exact this rfl
    exact ret1 (.inr rfl) Tryz.results12 rfl fun w' h => ⟨(), trivial, by rw [decide_eq_false hne], h.sub (by repeat' constructor)⟩
  · refine WC.skip ?_
    refine WC.seq ?_
    refine WC.seq ?_
    have hlen : xs.length = ys.length := by have := g10; omega
    refine WC.region ?_
    refine WL.y (Yl.move rfl) rfl ?_
    refine WL.y (Yl.len un22 rfl) rfl ?_
    refine WL.y (Yl.move rfl) rfl ?_
    refine WL.nil ?_
    refine WC.block ?_
    refine WC.loop (α := Nat) (fun k => [(0, .slice al xs.length cl), (1, .slice bl ys.length dl), (12, .int .i64 (xs.length : Int)), (13, .int .i64 (k : Int))]) (fun _ => []) (fun k => k ≤ xs.length ∧ xs.take k = ys.take k) (fun k => xs.length - k) 0 ⟨Nat.zero_le _, by simp⟩ ⟨(by repeat (first | exact Sub.nil | refine Sub.cons rfl ?_)), _, (by repeat' constructor)⟩ ?_
    rintro k ⟨hk, hsame⟩
    refine WC.seq ?_
    refine WC.region ?_
    refine WL.y (Yl.lss rfl rfl) rfl ?_
    refine WL.nil ?_
    refine WC.seq ?_
    refine WC.condD rfl (fun g14 => ?_) (fun g14 => ?_)
    · refine WC.skip ?_
      refine WC.seq ?_
      refine WC.block ?_
      refine WC.seq ?_
      refine WC.region ?_
      refine WL.y (Yl.move rfl) rfl ?_
      refine WL.y (Yl.assign rfl) rfl ?_
      refine WL.nil ?_
      refine WC.seq ?_
      have hkl : k < xs.length := by have := g14; omega
      obtain ⟨x, hx0⟩ : ∃ x, xs[k]? = some x := ⟨_, List.getElem?_eq_getElem hkl⟩
      obtain ⟨y, hy0⟩ : ∃ x, ys[k]? = some x := ⟨_, List.getElem?_eq_getElem (by omega)⟩
      refine WC.drawRead mixed (by kernel_rfl) ?_
      refine WH.y (Yl.move rfl) rfl ?_
      refine WH.y (Yl.move rfl) rfl ?_
      refine WH.y (Yl.index un22 sz24 rfl rfl (Reads.s hx) rfl (by omega)) rfl ?_
      refine WH.y (Yl.loadE (j := k) on24 rfl (Reads.s hx) (u := .int .u32 x) (by simp [ints, hx0])) rfl ?_
      refine WH.y (Yl.move rfl) rfl ?_
      refine WH.y (Yl.move rfl) rfl ?_
      refine WH.y (Yl.index un22 sz24 rfl rfl (Reads.s hy) rfl (by omega)) rfl ?_
      refine WH.y (Yl.loadE (j := k) on24 rfl (Reads.s hy) (u := .int .u32 y) (by simp [ints, hy0])) rfl ?_
      refine WH.y (Yl.neq rfl rfl) rfl ?_
      refine WH.nil ?_
      refine WC.condD rfl (fun g24 => ?_) (fun g24 => ?_)
      · refine WC.seq ?_
        refine WC.region ?_
        refine WL.y (Yl.assign rfl) rfl ?_
        refine WL.nil ?_
        refine WC.ret ?_
        repeat (with_reducible (first | refine peelT ?_ | refine peelB ?_ | refine peelTX ?_ | refine peelBX ?_ | refine peelBN ?_ | refine peelBO rfl ?_))
        have hne : ¬ xs = ys := fun e => by
          subst e
          rw [hx0] at hy0
          exact g24 (Option.some.inj hy0)
        exact ret1 (.inr rfl) Tryz.results12 rfl fun w' h => ⟨(), trivial, by rw [decide_eq_false hne], h.sub (by repeat' constructor)⟩
      · refine WC.skip ?_
        refine WC.region ?_
        refine WL.y (Yl.add rfl rfl (IntWalk.i64_in _ (by omega))) rfl ?_
        refine WL.y (Yl.move rfl) rfl ?_
        refine WL.nil ?_
        have hxy : x = y := by have := g24; omega
        exact ⟨rfl, k + 1, ⟨by omega, (take_nextU hsame hx0 hy0).2 hxy⟩, by omega, (by repeat (first | exact Sub.nil | refine Sub.cons rfl ?_)), _, (by repeat' constructor)⟩
    · refine WC.exit ?_
      refine WC.seq ?_
      refine WC.region ?_
      refine WL.y (Yl.assign rfl) rfl ?_
      refine WL.nil ?_
      refine WC.ret ?_
      repeat (with_reducible (first | refine peelT ?_ | refine peelB ?_ | refine peelTX ?_ | refine peelBX ?_ | refine peelBN ?_ | refine peelBO rfl ?_))
      have hkn : k = xs.length := by have := g14; omega
      have he : xs = ys := by
        rw [hkn, List.take_length, hlen, List.take_length] at hsame
        exact hsame
      exact ret1 (.inr rfl) Tryz.results12 rfl fun w' h => ⟨(), trivial, by rw [decide_eq_true he], h.sub (by repeat' constructor)⟩
end Go.Proofs.YtbgimajbehodnaaGreatDoor

namespace Go.Proofs.YtbgimajbehodnaaGreatDoor
open Go Go.RowKit
def U32 (n : Int) : Prop := 0 ≤ n ∧ n < 4294967296
theorem wf32 {n : Int} (h : U32 n) : (Lit.int .u32 n).wf = true := by
  rw [Lit.wf_int_iff]; have e1 : IntKind.u32.min = 0 := by decide
  have e2 : IntKind.u32.max = 4294967295 := by decide
  rw [e1, e2]; unfold U32 at h; omega
def UOk (xs : List Int) : Prop := ∀ x ∈ xs, U32 x
/-- A map of counts: of l, less xs. -/
structure CtM (l xs : List Int) (m : List (Int × Int)) : Prop where
  nd : mnd m
  key : ∀ p ∈ m, U32 p.1
  get : ∀ v, (mget m v).getD 0 = (l.count v : Int) - (xs.count v : Int)
theorem CtM.start : CtM [] [] [] := ⟨List.Pairwise.nil, (fun _ h => nomatch h), fun v => rfl⟩
theorem count_snoc (l : List Int) (v u : Int) : (l ++ [v]).count u = l.count u + if u = v then 1 else 0 := by
  rw [List.count_append, List.count_singleton]
  congr 1
  by_cases h : u = v
  · subst h; simp
  · rw [if_neg h, if_neg (by simpa using fun e => h e.symm)]
theorem CtM.put {l xs l' xs' : List Int} {m : List (Int × Int)} {v c : Int} (h : CtM l xs m) (hv : U32 v) (hc : c = (l'.count v : Int) - (xs'.count v : Int)) (ho : ∀ u, u ≠ v → (l'.count u : Int) - (xs'.count u : Int) = (l.count u : Int) - (xs.count u : Int)) : CtM l' xs' (mput m v c) := by
  refine ⟨mput_nd h.nd v c, fun p hp => ?_, fun u => ?_⟩
  · rcases mput_mem.1 hp with rfl | ⟨hp, _⟩
    · exact hv
    · exact h.key p hp
  · rw [mget_put h.nd]
    by_cases e : u = v
    · subst e; rw [if_pos rfl, hc]; rfl
    · rw [if_neg e, h.get u, ho u e]
theorem CtM.more {l xs : List Int} {m : List (Int × Int)} {v : Int} (h : CtM l xs m) (hv : U32 v) : CtM (l ++ [v]) xs (mput m v ((l.count v : Int) - (xs.count v : Int) + 1)) := by
  refine h.put hv ?_ fun u hu => ?_
  · rw [count_snoc, if_pos rfl]; omega
  · rw [count_snoc, if_neg hu]; omega
theorem CtM.less {l xs : List Int} {m : List (Int × Int)} {v : Int} (h : CtM l xs m) (hv : U32 v) : CtM l (xs ++ [v]) (mput m v ((l.count v : Int) - (xs.count v : Int) - 1)) := by
  refine h.put hv ?_ fun u hu => ?_
  · rw [count_snoc, if_pos rfl]; omega
  · rw [count_snoc, if_neg hu]; omega
theorem CtM.at {l xs : List Int} {m : List (Int × Int)} {j : Nat} {p : Int × Int} (h : CtM l xs m) (hp : m[j]? = some p) : p.2 = (l.count p.1 : Int) - (xs.count p.1 : Int) := by
  have h1 := get_at h.nd hp
  rw [← h.get, h1]
  rfl
theorem topS_sub {key : Int → Int} {n : Nat} {l : List Int} (i : Nat) (v : Int) : ((topS key n l).take i).count v ≤ l.count v := by
  rw [topS_eq, ← (srt_perm key l).count_eq v]
  exact List.Sublist.count_le v ((List.take_sublist _ _).trans (List.take_sublist _ _))
theorem topS_mem {key : Int → Int} {n : Nat} {l : List Int} {v : Int} (h : v ∈ topS key n l) : v ∈ l := by
  rw [topS_eq] at h
  exact (srt_perm key l).mem_iff.1 (List.mem_of_mem_take h)
theorem topS_u {key : Int → Int} {n : Nat} {l : List Int} (h : UOk l) : UOk (topS key n l) := fun _ hx => h _ (topS_mem hx)
/-- None that is left out stands ahead. -/
theorem topS_rest {key : Int → Int} {n : Nat} {l : List Int} {v : Int} (h : (topS key n l).count v < l.count v) : ∀ x ∈ topS key n l, key v ≤ key x := by
  rw [topS_eq, ← (srt_perm key l).count_eq v] at h
  have h1 : (srt key l).count v = ((srt key l).take n).count v + ((srt key l).drop n).count v := by rw [← List.count_append, List.take_append_drop]
  have h2 : v ∈ (srt key l).drop n := List.count_pos_iff.1 (by omega)
  intro x hx
  rw [topS_eq] at hx
  have hd := srt_desc key l
  unfold Desc at hd
  rw [← List.take_append_drop n (srt key l)] at hd
  exact (List.pairwise_append.1 hd).2.2 x hx v h2
/-- Fewer of them are the first of more. -/
theorem topS_first {key : Int → Int} {n m : Nat} {l : List Int} (h : n ≤ m) : (topS key m l).take (topS key n l).length = topS key n l := by
  rw [topS_len, topS_eq, topS_eq, List.take_take]
  rcases Nat.le_total n l.length with h1 | h1
  · rw [Nat.min_eq_left h1, Nat.min_eq_left h]
  · rw [Nat.min_eq_right h1, List.take_of_length_le (l := srt key l) (i := n) (by rw [srt_len]; exact h1)]
    rw [Nat.min_eq_left (show l.length ≤ m by omega), List.take_of_length_le (by rw [srt_len]; exact Nat.le_refl _)]
theorem topS_next {key : Int → Int} {n i : Nat} {l : List Int} {v u : Int} (hi : 0 < i) (h1 : (topS key n l)[i]? = some v) (h2 : (topS key n l)[i - 1]? = some u) : key v ≤ key u := by
  obtain ⟨a, rfl⟩ := List.getElem?_eq_some_iff.1 h1
  obtain ⟨b, rfl⟩ := List.getElem?_eq_some_iff.1 h2
  exact List.pairwise_iff_getElem.1 (topS_desc key n l) (i - 1) i b a (by omega)
end Go.Proofs.YtbgimajbehodnaaGreatDoor

namespace Go.Proofs.YtbgimajbehodnaaGreatDoor
open Go Go.RowKit
def ysU (xs : List Int) : List (Array Value) := xs.map (encK .u32)
theorem ysU_len (xs : List Int) : (ysU xs).length = xs.length := List.length_map _
theorem ysU_get {xs : List Int} {i : Nat} {x : Int} (h : xs[i]? = some x) : (ysU xs)[i]? = some #[.int .u32 x] := by simp [ysU, encK, h]
theorem ysU_at {xs : List Int} {i : Nat} {y : Array Value} (h : (ysU xs)[i]? = some y) : ∃ x, xs[i]? = some x ∧ y = #[.int .u32 x] := by
  simp [ysU, encK] at h
  obtain ⟨x, h1, h2⟩ := h
  exact ⟨x, h1, h2.symm⟩
theorem ysU_size {xs : List Int} : ∀ y ∈ ysU xs, y.size = 1 := encK_size
theorem allU_any (gf : Nat) (lb : List Value) (w : World) (hw : OK w (fpL []) [] w) : Fn Tryz.prog 43 [.func (.func gf) #[] lb.toArray] [] w (fun _ : Unit => True) (fun _ => .func (.func gf) #[] lb.toArray) (fun _ => []) := by
  refine enterF Tryz.func43 rfl Tryz.ntmps43 rfl hw ?_
  refine WC.seq ?_
  refine WC.region ?_
  refine WL.y (Yl.assign rfl) rfl ?_
  refine WL.nil ?_
  refine WC.seq ?_
  refine WC.seq ?_
  refine WC.region ?_
  refine WL.y (Yl.move rfl) rfl ?_
  refine WL.y (Yl.eqNilF (by kernel_rfl) rfl rfl) rfl ?_
  refine WL.know (t := 4) (b' := false) rfl (by first | rfl | (simp; done) | (simp; omega)) ?_
  refine WL.nil ?_
  refine WC.condF rfl (by first | rfl | (simp; done) | (simp; omega)) ?_
  refine WC.skip ?_
  refine WC.seq ?_
  refine WC.region ?_
  refine WL.y (Yl.move rfl) rfl ?_
  refine WL.y (Yl.assign rfl) rfl ?_
  refine WL.nil ?_
  refine WC.ret ?_
  repeat (with_reducible (first | refine peelT ?_ | refine peelB ?_ | refine peelTX ?_ | refine peelBX ?_ | refine peelBN ?_ | refine peelBO rfl ?_))
  exact ret1 (.inr rfl) Tryz.results43 rfl fun w' h => ⟨(), trivial, rfl, h.sub (by repeat' constructor)⟩
set_option maxRecDepth 100000 in
theorem val1U_iter (b1 : Nat) (v : Value) (xs : List Int) (hl : xs.length ≤ 1000000) (w : World) (hA : OK w (fpL [roR (blkR b1 22 [v]), rdR v 1 xs.length (ints .u32 xs)]) [roR (blkR b1 22 [v]), rdR v 1 xs.length (ints .u32 xs)] w) :
    Iter Tryz.prog 45 ([.pointer (some ⟨b1, 0, none⟩)] : List Value).toArray (fpL [roR (blkR b1 22 [v]), rdR v 1 xs.length (ints .u32 xs)]).rd (ysU xs) w := by
  obtain ⟨al, cl, rfl, hcl, hml⟩ := (hA.get (.tail .head) : Rd _ _ _ _ _).form
  have hwr : ∀ r ∈ [roR (blkR b1 22 [.slice al xs.length cl]), rdR (.slice al xs.length cl) 1 xs.length (ints .u32 xs)], ∀ k, ¬ r.wr k := by
    intro r hr k hk
    simp at hr
    rcases hr with rfl | rfl <;> exact hk
  have hln := ysU_len xs
  refine iter_of Tryz.func45 rfl Tryz.ntmps45 rfl hA hwr ?_
  intro l W g gx T0 hy
  refine WC.seq ?_
  refine WC.region ?_
  refine WL.y (Yl.loadRo on22 rfl (by repeat constructor) (by rfl)) rfl ?_
  refine WL.y (Yl.len un22 rfl) rfl ?_
  refine WL.y (Yl.move rfl) rfl ?_
  refine WL.nil ?_
  refine WC.block ?_
  refine WC.loop (α := Nat × (Nat → Prop)) (fun p => [(0, .func (.yield l) #[] #[]), (5, .slice al xs.length cl), (6, .int .i64 (xs.length : Int)), (7, .int .i64 (p.1 : Int))]) (fun p => [gstR g p.1 p.2, roR (blkR b1 22 [.slice al xs.length cl]), rdR (.slice al xs.length cl) 1 xs.length (ints .u32 xs)]) (fun p => p.1 ≤ xs.length) (fun p => xs.length - p.1) (0, T0) (Nat.zero_le _) ⟨(by repeat (first | exact Sub.nil | refine Sub.cons rfl ?_)), _, (by repeat' constructor)⟩ ?_
  rintro ⟨i, T⟩ hi
  dsimp only at hi ⊢
  refine WC.seq ?_
  refine WC.region ?_
  refine WL.y (Yl.lss rfl rfl) rfl ?_
  refine WL.nil ?_
  refine WC.seq ?_
  refine WC.condD rfl (fun g8 => ?_) (fun g8 => ?_)
  · refine WC.skip ?_
    refine WC.seq ?_
    refine WC.block ?_
    refine WC.seq ?_
    refine WC.region ?_
    have hil : i < xs.length := by omega
    obtain ⟨x, hx0⟩ : ∃ x, xs[i]? = some x := ⟨_, List.getElem?_eq_getElem hil⟩
    refine WL.y (Yl.index un22 sz24 rfl rfl (Reads.of (r := rdR (.slice al xs.length cl) 1 xs.length (ints .u32 xs)) RdOf.rd' (by repeat constructor)) rfl (by omega)) rfl ?_
    refine WL.y (Yl.loadE (j := i) (u := .int .u32 x) on24 rfl (Reads.of (r := rdR (.slice al xs.length cl) 1 xs.length (ints .u32 xs)) RdOf.rd' (by repeat constructor)) (by simp [ints, hx0])) rfl ?_
    refine WL.y (Yl.assign rfl) rfl ?_
    refine WL.nil ?_
    refine WC.seq ?_
    refine WC.region ?_
    refine WL.y (Yl.move rfl) rfl ?_
    refine WL.y (Yl.move rfl) rfl ?_
    refine WL.yield (xs := [.tmp 12]) (i := i) hy rfl rfl (ysU_get hx0) (by repeat constructor) rfl ?_
    intro b13 T'
    refine WL.y (Yl.not rfl) rfl ?_
    refine WL.nil ?_
    refine WC.cond rfl (fun g14 => ?_) (fun g14 => ?_)
    · refine WC.ret ?_
      repeat (with_reducible (first | refine peelT ?_ | refine peelB ?_ | refine peelTX ?_ | refine peelBX ?_ | refine peelBN ?_ | refine peelBO rfl ?_))
      have hb : b13 = false := by simpa using g14
      subst hb
      simp only [Bool.false_eq_true, if_false]
      exact itStop (i := i) (.inr rfl) Tryz.results45 (by repeat constructor) (by rw [hln]; exact hil)
    · refine WC.skip ?_
      refine WC.region ?_
      refine WL.y (Yl.add rfl rfl (IntWalk.i64_in _ (by omega))) rfl ?_
      refine WL.y (Yl.move rfl) rfl ?_
      refine WL.nil ?_
      have hb : b13 = true := by simpa using g14
      subst hb
      simp only [if_true]
      exact ⟨rfl, (i + 1, T'), by dsimp only; omega, by dsimp only; omega, (by repeat (first | exact Sub.nil | refine Sub.cons rfl ?_)), _, (by repeat' constructor)⟩
  · refine WC.exit ?_
    repeat (with_reducible (first | refine peelT ?_ | refine peelB ?_ | refine peelTX ?_ | refine peelBX ?_ | refine peelBN ?_ | refine peelBO rfl ?_))
    have hx : i = (ysU xs).length := by rw [hln]; omega
    rw [← hx]
    exact itEnd (.inl rfl) Tryz.results45 (by repeat constructor)
theorem valU_any (v : Value) (xs : List Int) (hl : xs.length ≤ 1000000) (w : World) (hw : OK w (fpL [rdR v 1 xs.length (ints .u32 xs)]) [rdR v 1 xs.length (ints .u32 xs)] w) :
    Fn Tryz.prog 11 [v] [rdR v 1 xs.length (ints .u32 xs)] w (fun _ : Nat × (Nat → Prop) => True) (fun y => .func (.func 45) #[] #[.pointer (some ⟨y.1, 0, none⟩)]) (fun y => [itR Tryz.prog 45 [.pointer (some ⟨y.1, 0, none⟩)] y.2 (ysU xs)]) := by
  obtain ⟨al, cl, rfl, hcl, hml⟩ := (hw.get .head : Rd _ _ _ _ _).form
  refine enterF Tryz.func11 rfl Tryz.ntmps11 rfl hw ?_
  refine WC.seq ?_
  refine WC.region ?_
  refine WL.to (To.box (cs := [.slice al xs.length cl]) rfl rfl) rfl ?_
  intro b1
  refine WL.y (Yl.assign rfl) rfl ?_
  refine WL.nil ?_
  refine WC.seq ?_
  refine WC.region ?_
  refine WL.y (Yl.makeFunc (xs := []) (ys := [.tmp 1]) rfl rfl) rfl ?_
  refine WL.y (Yl.assign rfl) rfl ?_
  refine WL.nil ?_
  refine WC.ret ?_
  repeat (with_reducible (first | refine peelT ?_ | refine peelB ?_ | refine peelTX ?_ | refine peelBX ?_ | refine peelBN ?_ | refine peelBO rfl ?_))
  refine ret1 (.inr rfl) Tryz.results11 rfl fun w' hh => ⟨(b1, (fpL [roR (blkR b1 22 [.slice al xs.length cl]), rdR (.slice al xs.length cl) 1 xs.length (ints .u32 xs)]).rd), trivial, rfl, ?_⟩
  have hA : OK w _ ([blkR b1 22 [.slice al xs.length cl], rdR (.slice al xs.length cl) 1 xs.length (ints .u32 xs)] ++ []) w' := hh.sub (by repeat' constructor)
  have hro : OK w _ ([roR (blkR b1 22 [.slice al xs.length cl]), rdR (.slice al xs.length cl) 1 xs.length (ints .u32 xs)] ++ []) w' := hA.roOne .head
  exact hro.toIter (val1U_iter b1 (.slice al xs.length cl) xs hl w' hro.here) (fun k hk => hk)
theorem ru_len (xs : List Int) : (ints .u32 xs).length = xs.length * 1 := by rw [ints_length, Nat.mul_one]
theorem ru_take (xs : List Int) (i : Nat) : (ints .u32 xs).take (i * 1) = ints .u32 (xs.take i) := by rw [Nat.mul_one, ints_take]
theorem ru_drop (xs : List Int) (i : Nat) : (ints .u32 xs).drop (i * 1) = ints .u32 (xs.drop i) := by rw [Nat.mul_one]; simp [ints]
theorem ru_cat {xs ys : List Int} {x : Int} : ints .u32 xs ++ ints .u32 [x] ++ ints .u32 ys = ints .u32 (xs ++ x :: ys) := by simp [ints]
theorem rdU {bv : Nat} {x : Int} : RdOf (blkR bv 24 (ints .u32 [x])) (.slice (some ⟨bv, 0, none⟩) 1 1) 1 1 (ints .u32 [x]) := RdOf.blk (Nat.le_refl _) (by unfold maxLen; omega) (by simp [ints]) (by simp [ints])
theorem ext_overlapsU {w : World} {args : Array Value} {v : Value} (h : (Extern.SlicesOverlaps.overlaps #[22, 22] #[4] args).run Tryz.prog w = .ok v w) : (callFunc 84 args).run Tryz.prog w = .ok (.value v) w := by
  rw [run_callFunc_extern (e := Extern.SlicesOverlaps.overlaps #[22, 22] #[4]) Tryz.func84 (by kernel_rfl) (by kernel_rfl) (by kernel_rfl) (by kernel_rfl), h]
  rfl
def zcU : Array Value := #[.int .u32 0]
set_option maxRecDepth 100000 in
theorem insU_any (ao : Option Addr) (cap : Nat) (xs : List Int) (x : Int) (i bv : Nat) (hl : xs.length ≤ 1000000) (hi : i ≤ xs.length) (w : World)
    (hw : OK w (fpL [ownR (.slice ao xs.length cap) 24 1 xs.length (ints .u32 xs), blkR bv 24 (ints .u32 [x])]) [ownR (.slice ao xs.length cap) 24 1 xs.length (ints .u32 xs), blkR bv 24 (ints .u32 [x])] w) :
    Fn Tryz.prog 44 [.slice ao xs.length cap, .int .i64 (i : Int), .slice (some ⟨bv, 0, none⟩) 1 1] [ownR (.slice ao xs.length cap) 24 1 xs.length (ints .u32 xs), blkR bv 24 (ints .u32 [x])] w (fun _ : Option Addr × Nat => True) (fun y => .slice y.1 (xs.length + 1) y.2)
      (fun y => [ownR (.slice y.1 (xs.length + 1) y.2) 24 1 (xs.length + 1) (ints .u32 (xs.take i ++ x :: xs.drop i))]) := by
  have hcap : xs.length ≤ cap := Sown.le (hw.get .head)
  have hml : cap ≤ maxLen := by obtain ⟨_, _, he, _, h⟩ := (hw.get .head : Sown _ _ _ _ _ _).rd.form; cases he; exact h
  have hlen := ru_len xs
  have h22 : (ints .u32 [x]).length = 1 := rfl
  refine enterF Tryz.func44 rfl Tryz.ntmps44 rfl hw ?_
  refine WC.seq ?_
  refine WC.region ?_
  refine WL.y (Yl.assign rfl) rfl ?_
  refine WL.nil ?_
  refine WC.seq ?_
  refine WC.region ?_
  refine WL.y (Yl.move rfl) rfl ?_
  refine WL.y (Yl.move rfl) rfl ?_
  refine WL.y (Yl.slice un22 sz24 rfl ⟨_, rfl⟩ rfl (by omega) (by omega)) rfl ?_
  refine WL.nil ?_
  refine WC.seq ?_
  refine WC.region ?_
  refine WL.y (Yl.move rfl) rfl ?_
  refine WL.y (Yl.len un22 rfl) rfl ?_
  refine WL.y (Yl.assign rfl) rfl ?_
  refine WL.nil ?_
  refine WC.seq ?_
  refine WC.seq ?_
  refine WC.region ?_
  refine WL.y (Yl.move rfl) rfl ?_
  refine WL.y (Yl.eql rfl rfl) rfl ?_
  refine WL.nil ?_
  refine WC.condF rfl (by first | rfl | (simp; done) | (simp; omega)) ?_
  refine WC.skip ?_
  refine WC.seq ?_
  refine WC.region ?_
  refine WL.y (Yl.move rfl) rfl ?_
  refine WL.y (Yl.len un22 rfl) rfl ?_
  refine WL.y (Yl.assign rfl) rfl ?_
  refine WL.nil ?_
  refine WC.seq ?_
  refine WC.seq ?_
  refine WC.region ?_
  refine WL.y (Yl.move rfl) rfl ?_
  refine WL.y (Yl.move rfl) rfl ?_
  refine WL.y (Yl.eql rfl rfl) rfl ?_
  refine WL.nil ?_
  refine WC.condD rfl (fun g22 => ?_) (fun g22 => ?_)
  · refine WC.seq ?_
    refine WC.region ?_
    refine WL.y (Yl.move rfl) rfl ?_
    refine WL.y (Yl.move rfl) rfl ?_
    refine WL.to (To.append sl22 rfl rfl (by repeat constructor) (Reads.of rdU (by repeat constructor)) (ints_one _ _) rfl (show ints .u32 xs ++ ints .u32 [x] = ints .u32 (xs.take i ++ x :: xs.drop i) from by
      obtain rfl : i = xs.length := by omega
      rw [List.take_length, List.drop_length, ← ru_cat]; simp [ints]) (by unfold maxLen; omega) (by omega)) rfl ?_
    rintro ⟨⟨ao25, c25⟩, hc25⟩
    dsimp only at hc25 ⊢
    refine WL.y (Yl.assign rfl) rfl ?_
    refine WL.nil ?_
    refine WC.ret ?_
    repeat (with_reducible (first | refine peelT ?_ | refine peelB ?_ | refine peelTX ?_ | refine peelBX ?_ | refine peelBN ?_ | refine peelBO rfl ?_))
    exact ret1 (.inr rfl) Tryz.results44 rfl fun w' h => ⟨(ao25, c25), trivial, rfl, h.sub (by repeat' constructor)⟩
  · refine WC.skip ?_
    refine WC.seq ?_
    refine WC.seq ?_
    refine WC.region ?_
    refine WL.y (Yl.move rfl) rfl ?_
    refine WL.y (Yl.move rfl) rfl ?_
    refine WL.y (Yl.add rfl rfl (IntWalk.i64_in _ (by omega))) rfl ?_
    refine WL.y (Yl.move rfl) rfl ?_
    refine WL.y (Yl.cap un22 rfl) rfl ?_
    refine WL.y (Yl.gtr rfl rfl) rfl ?_
    refine WL.nil ?_
    refine WC.condD rfl (fun g31 => ?_) (fun g31 => ?_)
    · refine WC.seq ?_
      refine WC.region ?_
      refine WL.y (Yl.move rfl) rfl ?_
      refine WL.y (Yl.move rfl) rfl ?_
      refine WL.y (Yl.slice un22 sz24 rfl rfl ⟨_, rfl⟩ (by omega) (by omega)) rfl ?_
      refine WL.say (t := 34) (v' := .slice ao i cap) rfl (by exact sub0) ?_
      refine WL.y (Yl.move rfl) rfl ?_
      refine WL.y (Yl.move rfl) rfl ?_
      refine WL.y (Yl.add rfl rfl (IntWalk.i64_in _ (by omega))) rfl ?_
      refine WL.y (Yl.move rfl) rfl ?_
      refine WL.y (Yl.sub rfl rfl (IntWalk.i64_in _ (by omega))) rfl ?_
      refine WL.say (t := 39) (v' := .int .i64 ((xs.length + 1 - i : Nat) : Int)) rfl (by congr 1; omega) ?_
      obtain ⟨Z, hZ⟩ : ∃ Z, Z = (Builtin.zeroCells zcU (xs.length + 1 - i)).toList := ⟨_, rfl⟩
      have hZl : Z.length = (xs.length + 1 - i) * 1 := by rw [hZ, Array.length_toList, size_zeroCells]; rfl
      refine WL.to (To.appendZN (i := i) (m := xs.length + 1 - i) (N := xs.length + 1) (zs := (ints .u32 xs).take (i * 1) ++ Z) sl22 un3 rfl rfl (by repeat constructor) hi (by omega) (by omega) (by omega) (by omega) (by rw [hZ]; rfl) (by unfold maxLen; omega) (by omega)) rfl ?_
      rintro ⟨⟨b40, c40⟩, hc40⟩
      dsimp only at hc40 ⊢
      refine WL.y (Yl.assign rfl) rfl ?_
      refine WL.nil ?_
      refine WC.seq ?_
      refine WC.region ?_
      refine WL.y (Yl.move rfl) rfl ?_
      refine WL.y (Yl.move rfl) rfl ?_
      refine WL.y (Yl.slice un22 sz24 rfl ⟨_, rfl⟩ rfl (by omega) (by omega)) rfl ?_
      refine WL.y (Yl.move rfl) rfl ?_
      refine WL.to (To.copyOwn (l := i) (k := 1) (m := 1) un22 sz24 rfl rfl (by repeat constructor) (Reads.of rdU (by repeat constructor)) (fun u hu => ints_one _ _ u (List.mem_of_mem_take hu)) (by omega) (Nat.min_eq_left (by omega)) rfl) rfl ?_
      rintro ⟨⟩
      refine WL.nil ?_
      refine WC.seq ?_
      refine WC.drawTail 8 mixed (by kernel_rfl) ?_
      refine WH.y (Yl.move rfl) rfl ?_
      refine WH.y (Yl.move rfl) rfl ?_
      refine WH.y (Yl.move rfl) rfl ?_
      refine WH.y (Yl.add rfl rfl (IntWalk.i64_in _ (by omega))) rfl ?_
      refine WH.say (t := 49) (v' := .int .i64 ((i + 1 : Nat) : Int)) rfl (by rfl) ?_
      refine WH.y (Yl.slice un22 sz24 rfl ⟨_, rfl⟩ rfl (by omega) (by omega)) rfl ?_
      refine WH.y (Yl.move rfl) rfl ?_
      refine WH.y (Yl.move rfl) rfl ?_
      refine WH.y (Yl.slice un22 sz24 rfl ⟨_, rfl⟩ rfl (by omega) (by omega)) rfl ?_
      refine WH.nil ?_
      refine WP.to (To.copyOwn (l := i + 1) (k := xs.length - i) (m := xs.length - i) (news := (ints .u32 xs).drop (i * 1)) (cs' := ints .u32 (xs.take i ++ x :: xs.drop i)) un22 sz24 rfl rfl (by repeat constructor) (Reads.of (RdOf.sub RdOf.own hi (Nat.le_refl _) (List.take_of_length_le (by rw [List.length_drop, hlen, Nat.sub_mul]; exact Nat.le_refl _))) (by repeat constructor)) (fun u hu => ints_one _ xs u (List.mem_of_mem_drop (List.mem_of_mem_take hu))) (by omega) (Nat.min_eq_left (by omega))
          (by rw [growL (n := xs.length) hlen hZl h22 hi (by decide), ru_take, ru_drop]; exact ru_cat)) rfl ?_
      rintro ⟨⟩
      refine WP.nil ?_
      refine WC.seq ?_
      refine WC.region ?_
      refine WL.y (Yl.move rfl) rfl ?_
      refine WL.y (Yl.assign rfl) rfl ?_
      refine WL.nil ?_
      refine WC.ret ?_
      repeat (with_reducible (first | refine peelT ?_ | refine peelB ?_ | refine peelTX ?_ | refine peelBX ?_ | refine peelBN ?_ | refine peelBO rfl ?_))
      exact ret1 (.inr rfl) Tryz.results44 rfl fun w' h => ⟨(some ⟨b40, 0, none⟩, c40), trivial, rfl, h.sub (by repeat' constructor)⟩
    · refine WC.skip ?_
      refine WC.seq ?_
      refine WC.region ?_
      refine WL.y (Yl.move rfl) rfl ?_
      refine WL.y (Yl.move rfl) rfl ?_
      refine WL.y (Yl.move rfl) rfl ?_
      refine WL.y (Yl.add rfl rfl (IntWalk.i64_in _ (by omega))) rfl ?_
      refine WL.y (Yl.slice un22 sz24 rfl rfl ⟨_, rfl⟩ (by omega) (by omega)) rfl ?_
      refine WL.viewX (fun w h => h.extend (m := 1) (by repeat constructor) (by omega)) ?_
      intro ys hys
      refine WL.say (t := 60) (v' := .slice ao (xs.length + 1) cap) rfl (by exact sub0) ?_
      refine WL.y (Yl.assign rfl) rfl ?_
      refine WL.nil ?_
      refine WC.seq ?_
      refine WC.seq ?_
      refine WC.region ?_
      refine WL.y (Yl.move rfl) rfl ?_
      refine WL.y (Yl.move rfl) rfl ?_
      refine WL.y (Yl.move rfl) rfl ?_
      refine WL.y (Yl.move rfl) rfl ?_
      refine WL.y (Yl.add rfl rfl (IntWalk.i64_in _ (by omega))) rfl ?_
      refine WL.y (Yl.slice un22 sz24 rfl ⟨_, rfl⟩ rfl (by omega) (by omega)) rfl ?_
      refine WL.y (Yl.callExt (xs := [.tmp 61, .tmp 66]) rfl rfl (fun w hw => ext_overlapsU (hw.overlaps un22 sz24 (by repeat' constructor) (by omega) (by decide)))) rfl ?_
      refine WL.y (Yl.not rfl) rfl ?_
      refine WL.nil ?_
      refine WC.condT rfl (by first | rfl | (simp; done) | (simp; omega)) ?_
      refine WC.seq ?_
      refine WC.drawTail 8 mixed (by kernel_rfl) ?_
      refine WH.y (Yl.move rfl) rfl ?_
      refine WH.y (Yl.move rfl) rfl ?_
      refine WH.y (Yl.move rfl) rfl ?_
      refine WH.y (Yl.add rfl rfl (IntWalk.i64_in _ (by omega))) rfl ?_
      refine WH.say (t := 72) (v' := .int .i64 ((i + 1 : Nat) : Int)) rfl (by rfl) ?_
      refine WH.y (Yl.slice un22 sz24 rfl ⟨_, rfl⟩ rfl (by omega) (by omega)) rfl ?_
      refine WH.y (Yl.move rfl) rfl ?_
      refine WH.y (Yl.move rfl) rfl ?_
      refine WH.y (Yl.slice un22 sz24 rfl ⟨_, rfl⟩ rfl (by omega) (by omega)) rfl ?_
      refine WH.nil ?_
      refine WP.to (To.copyOwn (l := i + 1) (k := xs.length - i) (m := xs.length + 1 - i) (news := (ints .u32 xs ++ ys).drop (i * 1)) un22 sz24 rfl rfl (by repeat constructor) (Reads.of (RdOf.sub RdOf.own (by omega) (Nat.le_refl _) (List.take_of_length_le (by rw [List.length_drop, List.length_append, hlen, hys]; omega))) (by repeat constructor)) (fun u hu => by
          rw [List.drop_append_of_le_length (by omega), List.take_left' (by rw [List.length_drop, hlen, Nat.sub_mul])] at hu
          exact ints_one _ xs u (List.mem_of_mem_drop hu)) (by omega) ((Nat.min_eq_right (by omega)).trans (by omega)) rfl) rfl ?_
      rintro ⟨⟩
      refine WP.nil ?_
      refine WC.seq ?_
      refine WC.region ?_
      refine WL.y (Yl.move rfl) rfl ?_
      refine WL.y (Yl.move rfl) rfl ?_
      refine WL.y (Yl.slice un22 sz24 rfl ⟨_, rfl⟩ rfl (by omega) (by omega)) rfl ?_
      refine WL.y (Yl.move rfl) rfl ?_
      refine WL.to (To.copyOwn (l := i) (k := 1) (m := 1) (cs' := ints .u32 (xs.take i ++ x :: xs.drop i)) un22 sz24 rfl rfl (by repeat constructor) (Reads.of rdU (by repeat constructor)) (fun u hu => ints_one _ _ u (List.mem_of_mem_take hu)) (by omega) (Nat.min_eq_left (by omega))
          (by rw [show (i + 1) = 1 + i from Nat.add_comm _ _] at *; rw [Nat.add_comm 1 i]; exact (shiftL (x := ints .u32 [x]) (n := xs.length) hlen hys h22 hi (by decide)).trans (by rw [ru_take, ru_drop]; exact ru_cat))) rfl ?_
      rintro ⟨⟩
      refine WL.nil ?_
      refine WC.seq ?_
      refine WC.region ?_
      refine WL.y (Yl.move rfl) rfl ?_
      refine WL.y (Yl.assign rfl) rfl ?_
      refine WL.nil ?_
      refine WC.ret ?_
      repeat (with_reducible (first | refine peelT ?_ | refine peelB ?_ | refine peelTX ?_ | refine peelBX ?_ | refine peelBN ?_ | refine peelBO rfl ?_))
      exact ret1 (.inr rfl) Tryz.results44 rfl fun w' h => ⟨(ao, cap), trivial, rfl, h.sub (by repeat' constructor)⟩
/-- A function that tells of two numbers whether the first has the greater key. -/
def AhU (ga : Nat) (key : Int → Int) : Prop := ∀ (x y : Int), U32 x → U32 y → ∀ w, OK w (fpL []) [] w → Fn Tryz.prog ga [.int .u32 x, .int .u32 y] [] w (fun _ : Unit => True) (fun _ => .bool (decide (key y < key x))) (fun _ => [])
set_option maxRecDepth 100000 in
set_option maxHeartbeats 1600000 in
theorem topU_any (gf : Nat) (lb : List Value) (own : Nat → Prop) (xs : List Int) (hG : UOk xs) (hl : xs.length ≤ 1000000) (eg : ∀ args w, (callFunc gf args).run Tryz.prog w = .ok (.enter gf args) w) (ga : Nat) (key : Int → Int) (ha : AhU ga key) (ega : ∀ args w, (callFunc ga args).run Tryz.prog w = .ok (.enter ga args) w)
    (n : Nat) (hn : 1 ≤ n) (w : World) (hw : OK w (fpL [itR Tryz.prog gf lb own (ysU xs)]) [itR Tryz.prog gf lb own (ysU xs)] w) :
    Fn Tryz.prog 10 [.func (.func gf) #[] lb.toArray, .int .i64 (n : Int), .func (.func ga) #[] #[]] [itR Tryz.prog gf lb own (ysU xs)] w (fun _ : Option Addr × Nat => True) (fun y => .slice y.1 (topS key n xs).length y.2) (fun y => [ownR (.slice y.1 (topS key n xs).length y.2) 24 1 (topS key n xs).length (ints .u32 (topS key n xs))]) := by
  refine enterM Tryz.func10 rfl Tryz.ntmps10 rfl hw ?_
  refine WC.seq ?_
  refine WC.region ?_
  refine WL.to (To.box (cs := [.int .i64 (n : Int)]) rfl rfl) rfl ?_
  intro b4
  refine WL.to (To.box (cs := [.func (.func ga) #[] #[]]) rfl rfl) rfl ?_
  intro b5
  refine WL.y (Yl.assign rfl) rfl ?_
  refine WL.nil ?_
  refine WC.seq ?_
  refine WC.seq ?_
  refine WC.region ?_
  refine WL.y (Yl.load on25 rfl (by repeat constructor) (by rfl)) rfl ?_
  refine WL.y (Yl.eqNilF (by kernel_rfl) rfl rfl) rfl ?_
  refine WL.know (t := 11) (b' := false) rfl (by first | rfl | (simp; done) | (simp; omega)) ?_
  refine WL.y (Yl.move rfl) rfl ?_
  refine WL.on rfl rfl ?_
  refine WL.y (Yl.load on3 rfl (by repeat constructor) (by rfl)) rfl ?_
  refine WL.on rfl rfl ?_
  refine WL.y (Yl.lss rfl rfl) rfl ?_
  refine WL.know (t := 14) (b' := false) rfl (by simp; omega) ?_
  refine WL.y (Yl.pickF rfl rfl) rfl ?_
  refine WL.nil ?_
  refine WC.condF rfl (by first | rfl | (simp; done) | (simp; omega)) ?_
  refine WC.skip ?_
  refine WC.seq ?_
  refine WC.region ?_
  refine WL.to (To.alloc (cs := [.slice none 0 0]) zr22 rfl) rfl ?_
  intro b7
  refine WL.nil ?_
  refine WC.seq ?_
  refine WC.seq ?_
  refine WC.region ?_
  refine WL.y (Yl.move rfl) rfl ?_
  refine WL.callC (xs := [.tmp 16]) (cap := []) rfl rfl en43 (by repeat' constructor) (fun w hw => allU_any gf lb w hw.left.here) rfl ?_
  rintro ⟨⟩ -
  refine WL.nil ?_
  refine WC.block ?_
  refine WC.view (fun w h => h.addNil 24 1) ?_
  refine WC.range (α := Option Addr × Nat) (lb := lb) (xs := ysU xs) (fun i s => [blkR b4 3 [.int .i64 (n : Int)], blkR b5 25 [.func (.func ga) #[] #[]], blkR b7 22 [.slice s.1 (topS key n (xs.take i)).length s.2], ownR (.slice s.1 (topS key n (xs.take i)).length s.2) 24 1 (topS key n (xs.take i)).length (ints .u32 (topS key n (xs.take i)))]) (fun _ _ => True) (none, 0) rfl eg ysU_size rfl (by repeat constructor) trivial (by repeat' constructor) ?_ ?_
  · rintro l2 i y ⟨ao, ca⟩ hx - W
    dsimp only
    obtain ⟨x, hx0, rfl⟩ := ysU_at hx
    have hil := (List.getElem?_eq_some_iff.1 hx0).1
    have hxo := hG x (List.mem_of_getElem? hx0)
    have hnx : xs.take (i + 1) = xs.take i ++ [x] := (take_snoc _ _ _ hx0).symm
    have hto : UOk (xs.take i) := fun r hr => hG r (List.mem_of_mem_take hr)
    have hT := topS_u (key := key) (n := n) hto
    have hTd := topS_desc key n (xs.take i)
    have hTl : (topS key n (xs.take i)).length ≤ i := by rw [topS_len, List.length_take]; omega
    rw [hnx, topS_snoc]
    generalize topS key n (xs.take i) = T at hT hTd hTl ⊢
    show WC _ _ _ ((18, .int .u32 x) :: _) _ _
    refine WC.region ?_
    refine WL.y (Yl.assign rfl) rfl ?_
    refine WL.nil ?_
    repeat (with_reducible (first | refine peelT ?_ | refine peelB ?_ | refine peelTX ?_ | refine peelBX ?_ | refine peelBN ?_ | refine peelBO rfl ?_))
    refine fun W2 => ?_
    refine WC.block ?_
    refine WC.seq ?_
    refine WC.region ?_
    refine WL.y (Yl.load on22 rfl (by repeat constructor) (by rfl)) rfl ?_
    refine WL.y (Yl.len un22 rfl) rfl ?_
    refine WL.y (Yl.assign rfl) rfl ?_
    refine WL.nil ?_
    refine WC.seq ?_
    refine WC.block ?_
    refine WC.loop (α := Nat) (fun k => [(4, .pointer (some ⟨b4, 0, none⟩)), (5, .pointer (some ⟨b5, 0, none⟩)), (7, .pointer (some ⟨b7, 0, none⟩)), (8, .int .u32 x), (9, .int .i64 (k : Int))]) (fun _ => [blkR b4 3 [.int .i64 (n : Int)], blkR b5 25 [.func (.func ga) #[] #[]], blkR b7 22 [.slice ao T.length ca], ownR (.slice ao T.length ca) 24 1 T.length (ints .u32 T)]) (fun k => k ≤ T.length ∧ ∀ y ∈ T.drop k, key y < key x) (fun k => k) T.length ⟨Nat.le_refl _, by rw [List.drop_length]; exact fun _ h => nomatch h⟩ ⟨(by repeat (first | exact Sub.nil | refine Sub.cons rfl ?_)), _, (by repeat' constructor)⟩ ?_
    rintro k ⟨hk, hdr⟩
    refine WC.seq ?_
    refine WC.seq ?_
    refine WC.drawAny (Hs := [blkR b4 3 [.int .i64 (n : Int)], blkR b5 25 [.func (.func ga) #[] #[]], blkR b7 22 [.slice ao T.length ca], ownR (.slice ao T.length ca) 24 1 T.length (ints .u32 T)]) mixed (by kernel_rfl) ⟨_, (by repeat' constructor)⟩ ?_
    refine WD.take 0 rfl (by kernel_rfl) (by kernel_rfl) (by kernel_rfl) rfl rfl (Yl.move rfl) rfl ?_
    refine WD.take 1 rfl (by kernel_rfl) (by kernel_rfl) (by kernel_rfl) rfl rfl (Yl.gtr rfl rfl) rfl ?_
    refine WD.take 2 rfl (by kernel_rfl) (by kernel_rfl) (by kernel_rfl) rfl rfl (Yl.move rfl) rfl ?_
    refine WD.both (t := 23) rfl (fun g23 => ?_) (fun g23 => ?_)
    · refine WD.takeOn 3 rfl (by kernel_rfl) (by kernel_rfl) (by kernel_rfl) rfl rfl rfl rfl (Yl.load on25 rfl (by repeat constructor) (by rfl)) rfl ?_
      have hk0 : 0 < k := by simpa using g23
      obtain ⟨y, hy0⟩ : ∃ y, T[k - 1]? = some y := ⟨_, List.getElem?_eq_getElem (by omega)⟩
      have hyo := hT y (List.mem_of_getElem? hy0)
      refine WD.takeOn 4 rfl (by kernel_rfl) (by kernel_rfl) (by kernel_rfl) rfl rfl rfl rfl (Yl.move rfl) rfl ?_
      refine WD.takeOn 5 rfl (by kernel_rfl) (by kernel_rfl) (by kernel_rfl) rfl rfl rfl rfl (Yl.load on22 rfl (by repeat constructor) (by rfl)) rfl ?_
      refine WD.takeOn 6 rfl (by kernel_rfl) (by kernel_rfl) (by kernel_rfl) rfl rfl rfl rfl (Yl.move rfl) rfl ?_
      refine WD.takeOn 7 rfl (by kernel_rfl) (by kernel_rfl) (by kernel_rfl) rfl rfl rfl rfl (Yl.sub rfl rfl (IntWalk.i64_in _ (by omega))) rfl ?_
      refine WD.say (t := 28) (v' := .int .i64 ((k - 1 : Nat) : Int)) rfl (by (refine congrArg _ ?_; omega)) ?_
      refine WD.takeOn 8 rfl (by kernel_rfl) (by kernel_rfl) (by kernel_rfl) rfl rfl rfl rfl (Yl.index un22 sz24 rfl rfl (Reads.of (r := ownR (.slice ao T.length ca) 24 1 T.length (ints .u32 T)) RdOf.own (by repeat constructor)) rfl (by omega)) rfl ?_
      refine WD.takeOn 9 rfl (by kernel_rfl) (by kernel_rfl) (by kernel_rfl) rfl rfl rfl rfl (Yl.loadE (j := k - 1) (u := .int .u32 y) on24 rfl (Reads.of (r := ownR (.slice ao T.length ca) 24 1 T.length (ints .u32 T)) RdOf.own (by repeat constructor)) (by simp [ints, hy0])) rfl ?_
      refine WD.one 10 (by kernel_rfl) ?_
      refine WO.callC (f := .tmp 24) (xs := [.tmp 25, .tmp 30]) (cap := []) rfl (.on rfl rfl) rfl rfl ega (by repeat' constructor) (fun w hw => ha x y hxo hyo w hw.left.here) rfl (fun _ => ⟨_, (by repeat' constructor)⟩) ?_
      rintro ⟨⟩ -
      refine WD.take 11 rfl (by kernel_rfl) (by kernel_rfl) (by kernel_rfl) rfl rfl (Yl.pickT rfl rfl) rfl ?_
      refine WD.done (by kernel_rfl) ?_
      refine WC.condD rfl (fun g32 => ?_) (fun g32 => ?_)
      · refine WC.skip ?_
        refine WC.block ?_
        refine WC.region ?_
        refine WL.y (Yl.move rfl) rfl ?_
        refine WL.y (Yl.sub rfl rfl (IntWalk.i64_in _ (by omega))) rfl ?_
        refine WL.say (t := 34) (v' := .int .i64 ((k - 1 : Nat) : Int)) rfl (by (refine congrArg _ ?_; omega)) ?_
        refine WL.y (Yl.assign rfl) rfl ?_
        refine WL.nil ?_
        have hlt : key y < key x := by simpa using g32
        refine ⟨rfl, k - 1, ⟨by omega, fun z hz => ?_⟩, by omega, (by repeat (first | exact Sub.nil | refine Sub.cons rfl ?_)), _, (by repeat' constructor)⟩
        rw [drop_pred hk0 hy0] at hz
        rcases List.mem_cons.1 hz with rfl | hz
        · exact hlt
        · exact hdr z hz
      · refine WC.exit ?_
        refine WC.seq ?_
        refine WC.region ?_
        have hins : insD key x T = T.take k ++ [x] ++ T.drop k := insD_at key x hk (fun z hz => desc_take hTd hy0 (by simpa using g32) z (by rw [show k - 1 + 1 = k by omega]; exact hz)) hdr
        rw [List.append_assoc, List.singleton_append] at hins
        refine WL.y (Yl.load on22 rfl (by repeat constructor) (by rfl)) rfl ?_
        refine WL.y (Yl.move rfl) rfl ?_
        refine WL.y (Yl.move rfl) rfl ?_
        refine WL.to (To.buildSlice (vs := [.int .u32 x]) un22 zs24 rfl rfl (by simp [Value.cells]) (by decide) (by decide)) rfl ?_
        intro b38
        rw [show flat [Value.int .u32 x] = ints .u32 [x] from rfl]
        refine WL.callC (xs := [.tmp 35, .tmp 36, .tmp 38]) (cap := []) rfl rfl en44 (by repeat' constructor) (fun w hw => insU_any ao ca T x k b38 (by omega) hk w hw.left.here) rfl ?_
        rintro ⟨a39, c39⟩ -
        dsimp only [List.cons_append, List.nil_append]
        rw [← hins, show T.length + 1 = (insD key x T).length from (insD_len key x T).symm]
        refine WL.sto (Sto.one sz22 rfl rfl (by repeat constructor) rfl (by rfl) (by rfl)) (fun _ h => nomatch h) ?_
        refine WL.nil ?_
        refine WC.seq ?_
        refine WC.region ?_
        refine WL.y (Yl.load on22 rfl (by repeat constructor) (by rfl)) rfl ?_
        refine WL.y (Yl.len un22 rfl) rfl ?_
        refine WL.y (Yl.load on3 rfl (by repeat constructor) (by rfl)) rfl ?_
        refine WL.y (Yl.gtr rfl rfl) rfl ?_
        refine WL.nil ?_
        refine WC.condD rfl (fun g43 => ?_) (fun g43 => ?_)
        · refine WC.region ?_
          have hbig : n < (insD key x T).length := by have h0 := g43; simp at h0; omega
          have hln : ((insD key x T).take n).length = n := by rw [List.length_take]; omega
          refine WL.viewX (α := Unit) (φ := fun _ => (insD key x T).length ≤ c39) (H' := fun _ => _) (fun w h => ⟨(), Sown.le (h.get (r := ownR (.slice a39 (insD key x T).length c39) 24 1 (insD key x T).length (ints .u32 (insD key x T))) (by repeat constructor)), h⟩) ?_
          intro _ hcp
          refine WL.y (Yl.load on22 rfl (by repeat constructor) (by rfl)) rfl ?_
          refine WL.y (Yl.load on3 rfl (by repeat constructor) (by rfl)) rfl ?_
          refine WL.y (Yl.slice un22 sz24 rfl rfl ⟨_, rfl⟩ (by omega) (by omega)) rfl ?_
          refine WL.view (fun w h => h.cutG (ao := a39) (cap := c39) (hh := ((insD key x T).take n).length) (cs' := ints .u32 ((insD key x T).take n)) (by repeat constructor) (by omega) hcp (by rw [hln]; exact ru_take _ n)) ?_
          refine WL.say (t := 46) (v' := .slice a39 ((insD key x T).take n).length c39) rfl (by rw [hln]; exact sub0) ?_
          refine WL.sto (Sto.one sz22 rfl rfl (by repeat constructor) rfl (by rfl) (by rfl)) (fun _ h => nomatch h) ?_
          refine WL.nil ?_
          repeat (with_reducible (first | refine peelT ?_ | refine peelB ?_ | refine peelTX ?_ | refine peelBX ?_ | refine peelBN ?_ | refine peelBO rfl ?_))
          exact ⟨[blkR b4 3 [.int .i64 (n : Int)], blkR b5 25 [.func (.func ga) #[] #[]], blkR b7 22 [.slice a39 ((insD key x T).take n).length c39], ownR (.slice a39 ((insD key x T).take n).length c39) 24 1 ((insD key x T).take n).length (ints .u32 ((insD key x T).take n))], _, (by repeat' constructor), (a39, c39), trivial, rfl⟩
        · refine WC.skip ?_
          repeat (with_reducible (first | refine peelT ?_ | refine peelB ?_ | refine peelTX ?_ | refine peelBX ?_ | refine peelBN ?_ | refine peelBO rfl ?_))
          have hVn : (insD key x T).take n = insD key x T := List.take_of_length_le (by have h0 := g43; simp at h0; omega)
          rw [hVn]
          exact ⟨[blkR b4 3 [.int .i64 (n : Int)], blkR b5 25 [.func (.func ga) #[] #[]], blkR b7 22 [.slice a39 (insD key x T).length c39], ownR (.slice a39 (insD key x T).length c39) 24 1 (insD key x T).length (ints .u32 (insD key x T))], _, (by repeat' constructor), (a39, c39), trivial, rfl⟩
    · refine WD.takeOff 3 rfl (by kernel_rfl) (by kernel_rfl) (by kernel_rfl) rfl rfl rfl rfl rfl rfl ?_
      refine WD.takeOff 4 rfl (by kernel_rfl) (by kernel_rfl) (by kernel_rfl) rfl rfl rfl rfl rfl rfl ?_
      refine WD.takeOff 5 rfl (by kernel_rfl) (by kernel_rfl) (by kernel_rfl) rfl rfl rfl rfl rfl rfl ?_
      refine WD.takeOff 6 rfl (by kernel_rfl) (by kernel_rfl) (by kernel_rfl) rfl rfl rfl rfl rfl rfl ?_
      refine WD.takeOff 7 rfl (by kernel_rfl) (by kernel_rfl) (by kernel_rfl) rfl rfl rfl rfl rfl rfl ?_
      refine WD.takeOff 8 rfl (by kernel_rfl) (by kernel_rfl) (by kernel_rfl) rfl rfl rfl rfl rfl rfl ?_
      refine WD.takeOff 9 rfl (by kernel_rfl) (by kernel_rfl) (by kernel_rfl) rfl rfl rfl rfl rfl rfl ?_
      refine WD.one 10 (by kernel_rfl) ?_
      refine WO.off rfl rfl rfl rfl rfl rfl rfl ?_
      refine WD.take 11 rfl (by kernel_rfl) (by kernel_rfl) (by kernel_rfl) rfl rfl (Yl.pickF rfl rfl) rfl ?_
      refine WD.done (by kernel_rfl) ?_
      refine WC.condF rfl (by first | rfl | (simp; done) | (simp; omega)) ?_
      refine WC.exit ?_
      refine WC.seq ?_
      refine WC.region ?_
      have hk0 : k = 0 := by simpa using g23
      have hins : insD key x T = T.take k ++ [x] ++ T.drop k := insD_at key x hk (by rw [hk0]; exact fun z hz => nomatch hz) hdr
      rw [List.append_assoc, List.singleton_append] at hins
      refine WL.y (Yl.load on22 rfl (by repeat constructor) (by rfl)) rfl ?_
      refine WL.y (Yl.move rfl) rfl ?_
      refine WL.y (Yl.move rfl) rfl ?_
      refine WL.to (To.buildSlice (vs := [.int .u32 x]) un22 zs24 rfl rfl (by simp [Value.cells]) (by decide) (by decide)) rfl ?_
      intro b38
      rw [show flat [Value.int .u32 x] = ints .u32 [x] from rfl]
      refine WL.callC (xs := [.tmp 35, .tmp 36, .tmp 38]) (cap := []) rfl rfl en44 (by repeat' constructor) (fun w hw => insU_any ao ca T x k b38 (by omega) hk w hw.left.here) rfl ?_
      rintro ⟨a39, c39⟩ -
      dsimp only [List.cons_append, List.nil_append]
      rw [← hins, show T.length + 1 = (insD key x T).length from (insD_len key x T).symm]
      refine WL.sto (Sto.one sz22 rfl rfl (by repeat constructor) rfl (by rfl) (by rfl)) (fun _ h => nomatch h) ?_
      refine WL.nil ?_
      refine WC.seq ?_
      refine WC.region ?_
      refine WL.y (Yl.load on22 rfl (by repeat constructor) (by rfl)) rfl ?_
      refine WL.y (Yl.len un22 rfl) rfl ?_
      refine WL.y (Yl.load on3 rfl (by repeat constructor) (by rfl)) rfl ?_
      refine WL.y (Yl.gtr rfl rfl) rfl ?_
      refine WL.nil ?_
      refine WC.condD rfl (fun g43 => ?_) (fun g43 => ?_)
      · refine WC.region ?_
        have hbig : n < (insD key x T).length := by have h0 := g43; simp at h0; omega
        have hln : ((insD key x T).take n).length = n := by rw [List.length_take]; omega
        refine WL.viewX (α := Unit) (φ := fun _ => (insD key x T).length ≤ c39) (H' := fun _ => _) (fun w h => ⟨(), Sown.le (h.get (r := ownR (.slice a39 (insD key x T).length c39) 24 1 (insD key x T).length (ints .u32 (insD key x T))) (by repeat constructor)), h⟩) ?_
        intro _ hcp
        refine WL.y (Yl.load on22 rfl (by repeat constructor) (by rfl)) rfl ?_
        refine WL.y (Yl.load on3 rfl (by repeat constructor) (by rfl)) rfl ?_
        refine WL.y (Yl.slice un22 sz24 rfl rfl ⟨_, rfl⟩ (by omega) (by omega)) rfl ?_
        refine WL.view (fun w h => h.cutG (ao := a39) (cap := c39) (hh := ((insD key x T).take n).length) (cs' := ints .u32 ((insD key x T).take n)) (by repeat constructor) (by omega) hcp (by rw [hln]; exact ru_take _ n)) ?_
        refine WL.say (t := 46) (v' := .slice a39 ((insD key x T).take n).length c39) rfl (by rw [hln]; exact sub0) ?_
        refine WL.sto (Sto.one sz22 rfl rfl (by repeat constructor) rfl (by rfl) (by rfl)) (fun _ h => nomatch h) ?_
        refine WL.nil ?_
        repeat (with_reducible (first | refine peelT ?_ | refine peelB ?_ | refine peelTX ?_ | refine peelBX ?_ | refine peelBN ?_ | refine peelBO rfl ?_))
        exact ⟨[blkR b4 3 [.int .i64 (n : Int)], blkR b5 25 [.func (.func ga) #[] #[]], blkR b7 22 [.slice a39 ((insD key x T).take n).length c39], ownR (.slice a39 ((insD key x T).take n).length c39) 24 1 ((insD key x T).take n).length (ints .u32 ((insD key x T).take n))], _, (by repeat' constructor), (a39, c39), trivial, rfl⟩
      · refine WC.skip ?_
        repeat (with_reducible (first | refine peelT ?_ | refine peelB ?_ | refine peelTX ?_ | refine peelBX ?_ | refine peelBN ?_ | refine peelBO rfl ?_))
        have hVn : (insD key x T).take n = insD key x T := List.take_of_length_le (by have h0 := g43; simp at h0; omega)
        rw [hVn]
        exact ⟨[blkR b4 3 [.int .i64 (n : Int)], blkR b5 25 [.func (.func ga) #[] #[]], blkR b7 22 [.slice a39 (insD key x T).length c39], ownR (.slice a39 (insD key x T).length c39) 24 1 (insD key x T).length (ints .u32 (insD key x T))], _, (by repeat' constructor), (a39, c39), trivial, rfl⟩
  · rintro ⟨ao, ca⟩ D -
    rw [ysU_len, List.take_length]
    dsimp only [List.cons_append, List.nil_append]
    refine WC.seq ?_
    refine WC.region ?_
    refine WL.y (Yl.load on22 rfl (by repeat constructor) (by rfl)) rfl ?_
    refine WL.y (Yl.assign rfl) rfl ?_
    refine WL.nil ?_
    refine WC.ret ?_
    repeat (with_reducible (first | refine peelT ?_ | refine peelB ?_ | refine peelTX ?_ | refine peelBX ?_ | refine peelBN ?_ | refine peelBO rfl ?_))
    refine retM.of (.cons (by repeat constructor) .nil) ?_
    exact ret1 (.inr rfl) Tryz.results10 rfl fun w' h => ⟨(ao, ca), trivial, rfl, h.sub (by repeat' constructor)⟩
end Go.Proofs.YtbgimajbehodnaaGreatDoor

namespace Go.Proofs.YtbgimajbehodnaaGreatDoor
open Go Go.RowKit
def kyM (x : Int) : Int := x.emod 1000
theorem keyTU : KeyT Tryz.prog 24 (fun x : Int => (Lit.int .u32 x).wf = true) (Value.int .u32) := .int (by kernel_rfl)
theorem ah_any : AhU 9 kyM := by
  intro x y hx hy w hw
  have h1 := hx.1
  have h2 := hy.1
  refine enterF Tryz.func9 rfl Tryz.ntmps9 rfl hw ?_
  refine WC.seq ?_
  refine WC.region ?_
  refine WL.y (Yl.assign rfl) rfl ?_
  refine WL.nil ?_
  refine WC.seq ?_
  refine WC.region ?_
  refine WL.y (Yl.move rfl) rfl ?_
  refine WL.y (Yl.rem rfl rfl (by omega) (Int.tmod_eq_emod_of_nonneg h1)) rfl ?_
  refine WL.y (Yl.move rfl) rfl ?_
  refine WL.y (Yl.rem rfl rfl (by omega) (Int.tmod_eq_emod_of_nonneg h2)) rfl ?_
  refine WL.y (Yl.gtr rfl rfl) rfl ?_
  refine WL.y (Yl.assign rfl) rfl ?_
  refine WL.nil ?_
  refine WC.ret ?_
  repeat (with_reducible (first | refine peelT ?_ | refine peelB ?_ | refine peelTX ?_ | refine peelBX ?_ | refine peelBN ?_ | refine peelBO rfl ?_))
  exact ret1 (.inr rfl) Tryz.results9 rfl fun w' h => ⟨(), trivial, rfl, h.sub (by repeat' constructor)⟩
theorem map_got {m : List (Int × Int)} {v : Int} : ((mget m v).map (Value.int .i64)).getD (.int .i64 0) = .int .i64 ((mget m v).getD 0) := by
  cases mget m v <;> rfl
theorem wfU {n : Int} (h : U32 n) : (Lit.int .u32 n).wf = true := wf32 h
set_option maxRecDepth 100000 in
set_option maxHeartbeats 1600000 in
theorem topLaw_any (v : Value) (xs : List Int) (hG : UOk xs) (n m : Int) (w : World) (hw : OK w (fpL [rdR v 1 xs.length (ints .u32 xs), glR]) [rdR v 1 xs.length (ints .u32 xs), glR] w) :
    Fn Tryz.prog 3 [v, .int .i64 n, .int .i64 m] [rdR v 1 xs.length (ints .u32 xs), glR] w (fun _ : Unit => True) (fun _ => .bool true) (fun _ => []) := by
  obtain ⟨al, cl, rfl, hcl, hml⟩ := (hw.get .head : Rd _ _ _ _ _).form
  refine enterF Tryz.func3 rfl Tryz.ntmps3 rfl hw ?_
  refine WC.seq ?_
  refine WC.region ?_
  refine WL.y (Yl.assign rfl) rfl ?_
  refine WL.nil ?_
  refine WC.seq ?_
  refine WC.seq ?_
  refine WC.region ?_
  refine WL.callC (xs := []) (cap := []) rfl rfl en8 (by repeat' constructor) (fun w hw => known_any w hw.left.here) rfl ?_
  rintro ⟨⟩ -
  try dsimp only [List.cons_append, List.nil_append]
  refine WL.y (Yl.not rfl) rfl ?_
  refine WL.know (t := 18) (b' := false) rfl (by first | rfl | (simp; done) | (simp; omega)) ?_
  refine WL.nil ?_
  refine WC.condF rfl (by first | rfl | (simp; done) | (simp; omega)) ?_
  refine WC.skip ?_
  refine WC.seq ?_
  refine WC.seq ?_
  refine WC.region ?_
  refine WL.y (Yl.move rfl) rfl ?_
  refine WL.y (Yl.len un22 rfl) rfl ?_
  refine WL.y (Yl.gtr rfl rfl) rfl ?_
  refine WL.y (Yl.move rfl) rfl ?_
  refine WL.both (t := 22) rfl (fun g22 => ?_) (fun g22 => ?_)
  · refine WL.off rfl rfl rfl rfl ?_
    refine WL.off rfl rfl rfl rfl ?_
    refine WL.y (Yl.pickT rfl rfl) rfl ?_
    refine WL.y (Yl.move rfl) rfl ?_
    refine WL.off rfl rfl rfl rfl ?_
    refine WL.off rfl rfl rfl rfl ?_
    refine WL.off rfl rfl rfl rfl ?_
    refine WL.y (Yl.pickT rfl rfl) rfl ?_
    refine WL.y (Yl.move rfl) rfl ?_
    refine WL.off rfl rfl rfl rfl ?_
    refine WL.off rfl rfl rfl rfl ?_
    refine WL.y (Yl.pickT rfl rfl) rfl ?_
    refine WL.nil ?_
    refine WC.condT rfl (by first | rfl | (simp; done) | (simp; omega)) ?_
    refine WC.seq ?_
    refine WC.region ?_
    refine WL.y (Yl.assign rfl) rfl ?_
    refine WL.nil ?_
    refine WC.ret ?_
    repeat (with_reducible (first | refine peelT ?_ | refine peelB ?_ | refine peelTX ?_ | refine peelBX ?_ | refine peelBN ?_ | refine peelBO rfl ?_))
    exact ret1 (.inr rfl) Tryz.results3 rfl fun w' h => ⟨(), trivial, rfl, h.sub (by repeat' constructor)⟩
  · refine WL.on rfl rfl ?_
    refine WL.y (Yl.move rfl) rfl ?_
    refine WL.on rfl rfl ?_
    refine WL.y (Yl.lss rfl rfl) rfl ?_
    refine WL.y (Yl.pickF rfl rfl) rfl ?_
    refine WL.y (Yl.move rfl) rfl ?_
    refine WL.both (t := 26) rfl (fun g26 => ?_) (fun g26 => ?_)
    · refine WL.off rfl rfl rfl rfl ?_
      refine WL.off rfl rfl rfl rfl ?_
      refine WL.off rfl rfl rfl rfl ?_
      refine WL.y (Yl.pickT rfl rfl) rfl ?_
      refine WL.y (Yl.move rfl) rfl ?_
      refine WL.off rfl rfl rfl rfl ?_
      refine WL.off rfl rfl rfl rfl ?_
      refine WL.y (Yl.pickT rfl rfl) rfl ?_
      refine WL.nil ?_
      refine WC.condT rfl (by first | rfl | (simp; done) | (simp; omega)) ?_
      refine WC.seq ?_
      refine WC.region ?_
      refine WL.y (Yl.assign rfl) rfl ?_
      refine WL.nil ?_
      refine WC.ret ?_
      repeat (with_reducible (first | refine peelT ?_ | refine peelB ?_ | refine peelTX ?_ | refine peelBX ?_ | refine peelBN ?_ | refine peelBO rfl ?_))
      exact ret1 (.inr rfl) Tryz.results3 rfl fun w' h => ⟨(), trivial, rfl, h.sub (by repeat' constructor)⟩
    · refine WL.on rfl rfl ?_
      refine WL.y (Yl.move rfl) rfl ?_
      refine WL.on rfl rfl ?_
      refine WL.y (Yl.move rfl) rfl ?_
      refine WL.on rfl rfl ?_
      refine WL.y (Yl.lss rfl rfl) rfl ?_
      refine WL.y (Yl.pickF rfl rfl) rfl ?_
      refine WL.y (Yl.move rfl) rfl ?_
      refine WL.both (t := 31) rfl (fun g31 => ?_) (fun g31 => ?_)
      · refine WL.off rfl rfl rfl rfl ?_
        refine WL.off rfl rfl rfl rfl ?_
        refine WL.y (Yl.pickT rfl rfl) rfl ?_
        refine WL.nil ?_
        refine WC.condT rfl (by first | rfl | (simp; done) | (simp; omega)) ?_
        refine WC.seq ?_
        refine WC.region ?_
        refine WL.y (Yl.assign rfl) rfl ?_
        refine WL.nil ?_
        refine WC.ret ?_
        repeat (with_reducible (first | refine peelT ?_ | refine peelB ?_ | refine peelTX ?_ | refine peelBX ?_ | refine peelBN ?_ | refine peelBO rfl ?_))
        exact ret1 (.inr rfl) Tryz.results3 rfl fun w' h => ⟨(), trivial, rfl, h.sub (by repeat' constructor)⟩
      · refine WL.on rfl rfl ?_
        refine WL.y (Yl.move rfl) rfl ?_
        refine WL.on rfl rfl ?_
        refine WL.y (Yl.gtr rfl rfl) rfl ?_
        refine WL.y (Yl.pickF rfl rfl) rfl ?_
        refine WL.nil ?_
        refine WC.condD rfl (fun g34 => ?_) (fun g34 => ?_)
        · refine WC.seq ?_
          refine WC.region ?_
          refine WL.y (Yl.assign rfl) rfl ?_
          refine WL.nil ?_
          refine WC.ret ?_
          repeat (with_reducible (first | refine peelT ?_ | refine peelB ?_ | refine peelTX ?_ | refine peelBX ?_ | refine peelBN ?_ | refine peelBO rfl ?_))
          exact ret1 (.inr rfl) Tryz.results3 rfl fun w' h => ⟨(), trivial, rfl, h.sub (by repeat' constructor)⟩
        · refine WC.skip ?_
          refine WC.seq ?_
          refine WC.region ?_
          refine WL.y (Yl.assign rfl) rfl ?_
          refine WL.nil ?_
          refine WC.seq ?_
          have q22 := g22
          have q26 := g26
          have q31 := g31
          simp at q22 q26 q31
          have hl200 : xs.length ≤ 200 := by omega
          obtain ⟨nn, rfl⟩ : ∃ nn : Nat, n = (nn : Int) := ⟨n.toNat, by omega⟩
          obtain ⟨mm, rfl⟩ : ∃ mm : Nat, m = (mm : Int) := ⟨m.toNat, by omega⟩
          have hn1 : 1 ≤ nn := by omega
          have hnm : nn ≤ mm := by omega
          have hXl := topS_len kyM nn xs
          have hYl := topS_len kyM mm xs
          have hXY := topS_first (key := kyM) (l := xs) hnm
          have hXs := fun i v => topS_sub (key := kyM) (n := nn) (l := xs) i v
          have hXm := fun v (h : v ∈ topS kyM nn xs) => topS_mem h
          have hXr := fun v => topS_rest (key := kyM) (n := nn) (l := xs) (v := v)
          have hXn := fun i (hi : 0 < i) v u => topS_next (key := kyM) (n := nn) (i := i) (l := xs) (v := v) (u := u) hi
          refine WC.region ?_
          refine WL.y (Yl.move rfl) rfl ?_
          refine WL.view (fun w h => h.dup (r := rdR (.slice al xs.length cl) 1 xs.length (ints .u32 xs)) (by repeat constructor) (fun _ h => h)) ?_
          refine WL.callC (xs := [.tmp 35]) (cap := []) rfl rfl en11 (by repeat' constructor) (fun w hw => valU_any (.slice al xs.length cl) xs (by omega) w hw.left.here) rfl ?_
          rintro ⟨v1, o1⟩ -
          try dsimp only
          refine WL.y (Yl.move rfl) rfl ?_
          refine WL.y (Yl.move rfl) rfl ?_
          refine WL.callC (xs := [.tmp 36, .tmp 37, .tmp 38]) (cap := []) rfl rfl en10 (by repeat' constructor) (fun w hw => topU_any 45 [.pointer (some ⟨v1, 0, none⟩)] o1 xs hG (by omega) en45 9 kyM ah_any en9 nn hn1 w hw.left.here) rfl ?_
          rintro ⟨aX, cX⟩ -
          try dsimp only [List.cons_append, List.nil_append]
          refine WL.y (Yl.move rfl) rfl ?_
          refine WL.view (fun w h => h.dup (r := rdR (.slice al xs.length cl) 1 xs.length (ints .u32 xs)) (by repeat constructor) (fun _ h => h)) ?_
          refine WL.callC (xs := [.tmp 40]) (cap := []) rfl rfl en11 (by repeat' constructor) (fun w hw => valU_any (.slice al xs.length cl) xs (by omega) w hw.left.here) rfl ?_
          rintro ⟨v2, o2⟩ -
          try dsimp only
          refine WL.y (Yl.move rfl) rfl ?_
          refine WL.y (Yl.move rfl) rfl ?_
          refine WL.callC (xs := [.tmp 41, .tmp 42, .tmp 43]) (cap := []) rfl rfl en10 (by repeat' constructor) (fun w hw => topU_any 45 [.pointer (some ⟨v2, 0, none⟩)] o2 xs hG (by omega) en45 9 kyM ah_any en9 mm (by omega) w hw.left.here) rfl ?_
          rintro ⟨aY, cY⟩ -
          try dsimp only [List.cons_append, List.nil_append]
          generalize topS kyM nn xs = X at hXl hXY hXs hXm hXr hXn ⊢
          generalize topS kyM mm xs = Y at hYl hXY ⊢
          refine WL.y (Yl.assign rfl) rfl ?_
          refine WL.y (Yl.assign rfl) rfl ?_
          refine WL.nil ?_
          refine WC.seq ?_
          refine WC.seq ?_
          have hx50 : (X.length : Int) = if (xs.length : Int) < (nn : Int) then (xs.length : Int) else (nn : Int) := by rw [hXl]; split <;> omega
          have hx58 : (Y.length : Int) = if (xs.length : Int) < (mm : Int) then (xs.length : Int) else (mm : Int) := by rw [hYl]; split <;> omega
          have hXYl : X.length ≤ Y.length := by rw [hXl, hYl]; omega
          refine WC.viewX (α := Unit) (φ := fun _ => Y.length ≤ cY) (H' := fun _ => _) (fun w h => ⟨(), Sown.le (h.get (r := ownR (.slice aY Y.length cY) 24 1 Y.length (ints .u32 Y)) (by repeat constructor)), h⟩) ?_
          intro _ hcY
          refine WC.region ?_
          refine WL.y (Yl.move rfl) rfl ?_
          refine WL.y (Yl.len un22 rfl) rfl ?_
          refine WL.y (Yl.move rfl) rfl ?_
          refine WL.y (Yl.move rfl) rfl ?_
          refine WL.y (Yl.len un22 rfl) rfl ?_
          refine WL.y (Yl.min2 rfl rfl) rfl ?_
          refine WL.y (Yl.neq rfl rfl) rfl ?_
          refine WL.know (t := 51) (b' := false) rfl (by rw [← hx50]; simp) ?_
          refine WL.y (Yl.move rfl) rfl ?_
          refine WL.on rfl rfl ?_
          refine WL.y (Yl.move rfl) rfl ?_
          refine WL.on rfl rfl ?_
          refine WL.y (Yl.len un22 rfl) rfl ?_
          refine WL.on rfl rfl ?_
          refine WL.y (Yl.move rfl) rfl ?_
          refine WL.on rfl rfl ?_
          refine WL.y (Yl.move rfl) rfl ?_
          refine WL.on rfl rfl ?_
          refine WL.y (Yl.len un22 rfl) rfl ?_
          refine WL.on rfl rfl ?_
          refine WL.y (Yl.min2 rfl rfl) rfl ?_
          refine WL.on rfl rfl ?_
          refine WL.y (Yl.neq rfl rfl) rfl ?_
          refine WL.know (t := 59) (b' := false) rfl (by rw [← hx58]; simp) ?_
          refine WL.y (Yl.pickF rfl rfl) rfl ?_
          refine WL.y (Yl.move rfl) rfl ?_
          refine WL.on rfl rfl ?_
          refine WL.y (Yl.move rfl) rfl ?_
          refine WL.on rfl rfl ?_
          refine WL.y (Yl.move rfl) rfl ?_
          refine WL.on rfl rfl ?_
          refine WL.y (Yl.move rfl) rfl ?_
          refine WL.on rfl rfl ?_
          refine WL.y (Yl.len un22 rfl) rfl ?_
          refine WL.on rfl rfl ?_
          refine WL.y (Yl.slice un22 sz24 rfl rfl ⟨_, rfl⟩ (by omega) (by omega)) rfl ?_
          refine WL.say (t := 66) (v' := .slice aY X.length cY) rfl (by exact sub0) ?_
          refine WL.on rfl rfl ?_
          refine WL.callC (xs := [.tmp 62, .tmp 66]) (cap := []) rfl rfl en12 (by repeat' constructor) (fun w hw => equalU_any (.slice aX X.length cX) (.slice aY X.length cY) X X (by omega) w (hw.src (A := []) (r := ownR (.slice aX X.length cX) 24 1 X.length (ints .u32 X)) RdOf.own (by repeat constructor)) (hw.src (A := []) (r := ownR (.slice aY Y.length cY) 24 1 Y.length (ints .u32 Y)) (by have h0 := RdOf.sub (r := ownR (.slice aY Y.length cY) 24 1 Y.length (ints .u32 Y)) (l := 0) (h := X.length) (cs' := ints .u32 X) RdOf.own (Nat.zero_le _) hXYl (by rw [Nat.zero_mul, List.drop_zero, Nat.sub_zero, Nat.mul_one, ints_take, hXY]); rw [sub0, Nat.sub_zero] at h0; exact h0) (by repeat constructor)) hw.left.here) rfl ?_
          rintro ⟨⟩ -
          refine WL.on rfl rfl ?_
          refine WL.y (Yl.not rfl) rfl ?_
          refine WL.know (t := 68) (b' := false) rfl (by simp) ?_
          refine WL.y (Yl.pickF rfl rfl) rfl ?_
          refine WL.nil ?_
          refine WC.condF rfl (by first | rfl | (simp; done) | (simp; omega)) ?_
          refine WC.skip ?_
          refine WC.seq ?_
          refine WC.region ?_
          refine WL.to (To.makeMap (Value.int .u32) (Value.int .i64)) rfl ?_
          intro b70
          refine WL.y (Yl.assign rfl) rfl ?_
          refine WL.nil ?_
          refine WC.seq ?_
          refine WC.seq ?_
          refine WC.region ?_
          refine WL.y (Yl.move rfl) rfl ?_
          refine WL.y (Yl.len un22 rfl) rfl ?_
          refine WL.y (Yl.move rfl) rfl ?_
          refine WL.nil ?_
          refine WC.block ?_
          refine WC.loop (α := Nat × List (Int × Int)) (fun k => [(7, .func (.func 9) #[] #[]), (8, .slice aX X.length cX), (10, .map (some b70)), (71, .slice al xs.length cl), (72, .int .i64 (xs.length : Int)), (73, .int .i64 (k.1 : Int))]) (fun k => [rdR (.slice al xs.length cl) 1 xs.length (ints .u32 xs), ownR (.slice aX X.length cX) 24 1 X.length (ints .u32 X), mapR (Value.int .u32) (Value.int .i64) b70 k.2]) (fun k => k.1 ≤ xs.length ∧ CtM (xs.take k.1) [] k.2) (fun k => xs.length - k.1) (0, []) ⟨Nat.zero_le _, by rw [List.take_zero]; exact CtM.start⟩ ⟨(by repeat (first | exact Sub.nil | refine Sub.cons rfl ?_)), _, (by repeat' constructor)⟩ ?_
          rintro ⟨i, M⟩ ⟨hi, hM⟩
          dsimp only at hi hM ⊢
          refine WC.seq ?_
          refine WC.region ?_
          refine WL.y (Yl.lss rfl rfl) rfl ?_
          refine WL.nil ?_
          refine WC.seq ?_
          refine WC.condD rfl (fun g74 => ?_) (fun g74 => ?_)
          · refine WC.skip ?_
            refine WC.seq ?_
            refine WC.block ?_
            refine WC.seq ?_
            refine WC.region ?_
            have hil : i < xs.length := by omega
            obtain ⟨x, hx0⟩ : ∃ x, xs[i]? = some x := ⟨_, List.getElem?_eq_getElem hil⟩
            have hxu := hG x (List.mem_of_getElem? hx0)
            have hnx : xs.take (i + 1) = xs.take i ++ [x] := (take_snoc _ _ _ hx0).symm
            have hmG : ∀ p ∈ M, (Lit.int .u32 p.1).wf = true := fun p hp => wfU (hM.key p hp)
            have hct : (xs.take i).count x ≤ i := Nat.le_trans List.count_le_length (by rw [List.length_take]; omega)
            refine WL.y (Yl.index un22 sz24 rfl rfl (Reads.of (r := rdR (.slice al xs.length cl) 1 xs.length (ints .u32 xs)) RdOf.rd' (by repeat constructor)) rfl (by omega)) rfl ?_
            refine WL.y (Yl.loadE (j := i) (u := .int .u32 x) on24 rfl (Reads.of (r := rdR (.slice al xs.length cl) 1 xs.length (ints .u32 xs)) RdOf.rd' (by repeat constructor)) (by simp [ints, hx0])) rfl ?_
            refine WL.y (Yl.assign rfl) rfl ?_
            refine WL.nil ?_
            refine WC.region ?_
            refine WL.y (Yl.move rfl) rfl ?_
            refine WL.y (Yl.move rfl) rfl ?_
            refine WL.y (Yl.lookup (kv := Value.int .u32) keyTU un31 (fun _ => by kernel_rfl) (z := .int .i64 0) hmG rfl rfl (wfU hxu) (MReads.of (m := M) MapOf.own (by repeat constructor))) rfl ?_
            refine WL.say (t := 79) (v' := .int .i64 (((xs.take i).count x : Int) - (([] : List Int).count x : Int))) rfl (by (rw [← hM.get x]; exact map_got)) ?_
            refine WL.y (Yl.add rfl rfl (IntWalk.i64_in _ (by simp only [List.count_nil]; omega))) rfl ?_
            refine WL.sto (Sto.mapPut (v := ((xs.take i).count x : Int) - (([] : List Int).count x : Int) + 1) (q := x) (m := M) (kv := Value.int .u32) keyTU un31 hmG rfl rfl (wfU hxu) rfl (by repeat constructor)) (fun _ h => nomatch h) ?_
            refine WL.nil ?_
            refine WC.region ?_
            refine WL.y (Yl.add rfl rfl (IntWalk.i64_in _ (by omega))) rfl ?_
            refine WL.y (Yl.move rfl) rfl ?_
            refine WL.nil ?_
            exact ⟨rfl, (i + 1, mput M x (((xs.take i).count x : Int) - (([] : List Int).count x : Int) + 1)), ⟨by dsimp only; omega, by dsimp only; rw [hnx]; exact hM.more hxu⟩, by dsimp only; omega, (by repeat (first | exact Sub.nil | refine Sub.cons rfl ?_)), _, (by repeat' constructor)⟩
          · refine WC.exit ?_
            refine WC.seq ?_
            refine WC.seq ?_
            refine WC.region ?_
            obtain rfl : i = xs.length := by omega
            rw [List.take_length] at hM
            refine WL.y (Yl.move rfl) rfl ?_
            refine WL.y (Yl.len un22 rfl) rfl ?_
            refine WL.y (Yl.move rfl) rfl ?_
            refine WL.nil ?_
            refine WC.block ?_
            refine WC.loop (α := Nat × List (Int × Int)) (fun k => [(7, .func (.func 9) #[] #[]), (8, .slice aX X.length cX), (10, .map (some b70)), (82, .slice aX X.length cX), (83, .int .i64 (X.length : Int)), (84, .int .i64 (k.1 : Int))]) (fun k => [ownR (.slice aX X.length cX) 24 1 X.length (ints .u32 X), mapR (Value.int .u32) (Value.int .i64) b70 k.2]) (fun k => k.1 ≤ X.length ∧ CtM xs (X.take k.1) k.2) (fun k => X.length - k.1) (0, M) ⟨Nat.zero_le _, by rw [List.take_zero]; exact hM⟩ ⟨(by repeat (first | exact Sub.nil | refine Sub.cons rfl ?_)), _, (by repeat' constructor)⟩ ?_
            clear hM M
            rintro ⟨i, M⟩ ⟨hi, hM⟩
            dsimp only at hi hM ⊢
            refine WC.seq ?_
            refine WC.region ?_
            refine WL.y (Yl.lss rfl rfl) rfl ?_
            refine WL.nil ?_
            refine WC.seq ?_
            refine WC.condD rfl (fun g85 => ?_) (fun g85 => ?_)
            · refine WC.skip ?_
              refine WC.seq ?_
              refine WC.block ?_
              refine WC.seq ?_
              refine WC.region ?_
              have hil : i < X.length := by omega
              obtain ⟨x, hx0⟩ : ∃ x, X[i]? = some x := ⟨_, List.getElem?_eq_getElem hil⟩
              have hxm := hXm x (List.mem_of_getElem? hx0)
              have hxu := hG x hxm
              have hnx : X.take (i + 1) = X.take i ++ [x] := (take_snoc _ _ _ hx0).symm
              have hmG : ∀ p ∈ M, (Lit.int .u32 p.1).wf = true := fun p hp => wfU (hM.key p hp)
              have hc1 : xs.count x ≤ 200 := Nat.le_trans List.count_le_length (by omega)
              have hc2 : (X.take i).count x ≤ 200 := Nat.le_trans List.count_le_length (by rw [List.length_take]; omega)
              have hc3 := hXs (i + 1) x
              have hM2 := hM.less hxu
              rw [← hnx] at hM2
              have hmG2 : ∀ p ∈ mput M x ((xs.count x : Int) - ((X.take i).count x : Int) - 1), (Lit.int .u32 p.1).wf = true := fun p hp => wfU (hM2.key p hp)
              refine WL.y (Yl.move rfl) rfl ?_
              refine WL.y (Yl.index un22 sz24 rfl rfl (Reads.of (r := ownR (.slice aX X.length cX) 24 1 X.length (ints .u32 X)) RdOf.own (by repeat constructor)) rfl (by omega)) rfl ?_
              refine WL.y (Yl.loadE (j := i) (u := .int .u32 x) on24 rfl (Reads.of (r := ownR (.slice aX X.length cX) 24 1 X.length (ints .u32 X)) RdOf.own (by repeat constructor)) (by simp [ints, hx0])) rfl ?_
              refine WL.y (Yl.assign rfl) rfl ?_
              refine WL.y (Yl.assign rfl) rfl ?_
              refine WL.nil ?_
              refine WC.seq ?_
              refine WC.region ?_
              refine WL.y (Yl.move rfl) rfl ?_
              refine WL.y (Yl.move rfl) rfl ?_
              refine WL.y (Yl.lookup (kv := Value.int .u32) keyTU un31 (fun _ => by kernel_rfl) (z := .int .i64 0) hmG rfl rfl (wfU hxu) (MReads.of (m := M) MapOf.own (by repeat constructor))) rfl ?_
              refine WL.say (t := 91) (v' := .int .i64 ((xs.count x : Int) - ((X.take i).count x : Int))) rfl (by (rw [← hM.get x]; exact map_got)) ?_
              refine WL.y (Yl.sub rfl rfl (IntWalk.i64_in _ (by omega))) rfl ?_
              refine WL.sto (Sto.mapPut (v := (xs.count x : Int) - ((X.take i).count x : Int) - 1) (q := x) (m := M) (kv := Value.int .u32) keyTU un31 hmG rfl rfl (wfU hxu) rfl (by repeat constructor)) (fun _ h => nomatch h) ?_
              refine WL.nil ?_
              refine WC.seq ?_
              refine WC.region ?_
              refine WL.y (Yl.move rfl) rfl ?_
              refine WL.y (Yl.move rfl) rfl ?_
              refine WL.y (Yl.lookup (kv := Value.int .u32) keyTU un31 (fun _ => by kernel_rfl) (z := .int .i64 0) hmG2 rfl rfl (wfU hxu) (MReads.of (m := mput M x ((xs.count x : Int) - ((X.take i).count x : Int) - 1)) MapOf.own (by repeat constructor))) rfl ?_
              refine WL.say (t := 95) (v' := .int .i64 ((xs.count x : Int) - ((X.take (i + 1)).count x : Int))) rfl (by (rw [← hM2.get x]; exact map_got)) ?_
              refine WL.y (Yl.lss rfl rfl) rfl ?_
              refine WL.know (t := 96) (b' := false) rfl (by simp; omega) ?_
              refine WL.y (Yl.move rfl) rfl ?_
              refine WL.on rfl rfl ?_
              refine WL.y (Yl.move rfl) rfl ?_
              refine WL.on rfl rfl ?_
              refine WL.y (Yl.gtr rfl rfl) rfl ?_
              refine WL.on rfl rfl ?_
              refine WL.y (Yl.move rfl) rfl ?_
              refine WL.both (t := 100) rfl (fun g100 => ?_) (fun g100 => ?_)
              · refine WL.on rfl rfl ?_
                have hi0 : 0 < i := by have q := g100; simp at q; omega
                obtain ⟨y, hy0⟩ : ∃ y, X[i - 1]? = some y := ⟨_, List.getElem?_eq_getElem (by omega)⟩
                have hyu := hG y (hXm y (List.mem_of_getElem? hy0))
                have hky := hXn i hi0 x y hx0 hy0
                refine WL.y (Yl.move rfl) rfl ?_
                refine WL.on rfl rfl ?_
                refine WL.y (Yl.move rfl) rfl ?_
                refine WL.on rfl rfl ?_
                refine WL.y (Yl.move rfl) rfl ?_
                refine WL.on rfl rfl ?_
                refine WL.y (Yl.move rfl) rfl ?_
                refine WL.on rfl rfl ?_
                refine WL.y (Yl.sub rfl rfl (IntWalk.i64_in _ (by omega))) rfl ?_
                refine WL.say (t := 105) (v' := .int .i64 ((i - 1 : Nat) : Int)) rfl (by (refine congrArg _ ?_; omega)) ?_
                refine WL.on rfl rfl ?_
                refine WL.y (Yl.index un22 sz24 rfl rfl (Reads.of (r := ownR (.slice aX X.length cX) 24 1 X.length (ints .u32 X)) RdOf.own (by repeat constructor)) rfl (by omega)) rfl ?_
                refine WL.on rfl rfl ?_
                refine WL.y (Yl.loadE (j := i - 1) (u := .int .u32 y) on24 rfl (Reads.of (r := ownR (.slice aX X.length cX) 24 1 X.length (ints .u32 X)) RdOf.own (by repeat constructor)) (by simp [ints, hy0])) rfl ?_
                refine WL.on rfl rfl ?_
                refine WL.callC (f := .tmp 101) (xs := [.tmp 102, .tmp 107]) (cap := []) rfl rfl en9 (by repeat' constructor) (fun w hw => ah_any x y hxu hyu w hw.left.here) rfl ?_
                rintro ⟨⟩ -
                refine WL.know (t := 108) (b' := false) rfl (by simp; omega) ?_
                refine WL.on rfl rfl ?_
                refine WL.y (Yl.pickT rfl rfl) rfl ?_
                refine WL.y (Yl.pickF rfl rfl) rfl ?_
                refine WL.nil ?_
                refine WC.condF rfl (by first | rfl | (simp; done) | (simp; omega)) ?_
                refine WC.skip ?_
                refine WC.region ?_
                refine WL.y (Yl.add rfl rfl (IntWalk.i64_in _ (by omega))) rfl ?_
                refine WL.y (Yl.move rfl) rfl ?_
                refine WL.nil ?_
                exact ⟨rfl, (i + 1, mput M x ((xs.count x : Int) - ((X.take i).count x : Int) - 1)), ⟨by dsimp only; omega, hM2⟩, by dsimp only; omega, (by repeat (first | exact Sub.nil | refine Sub.cons rfl ?_)), _, (by repeat' constructor)⟩
              · refine WL.off rfl rfl rfl rfl ?_
                refine WL.off rfl rfl rfl rfl ?_
                refine WL.off rfl rfl rfl rfl ?_
                refine WL.off rfl rfl rfl rfl ?_
                refine WL.off rfl rfl rfl rfl ?_
                refine WL.off rfl rfl rfl rfl ?_
                refine WL.off rfl rfl rfl rfl ?_
                refine WL.off rfl rfl rfl rfl ?_
                refine WL.on rfl rfl ?_
                refine WL.y (Yl.pickF rfl rfl) rfl ?_
                refine WL.y (Yl.pickF rfl rfl) rfl ?_
                refine WL.nil ?_
                refine WC.condF rfl (by first | rfl | (simp; done) | (simp; omega)) ?_
                refine WC.skip ?_
                refine WC.region ?_
                refine WL.y (Yl.add rfl rfl (IntWalk.i64_in _ (by omega))) rfl ?_
                refine WL.y (Yl.move rfl) rfl ?_
                refine WL.nil ?_
                exact ⟨rfl, (i + 1, mput M x ((xs.count x : Int) - ((X.take i).count x : Int) - 1)), ⟨by dsimp only; omega, hM2⟩, by dsimp only; omega, (by repeat (first | exact Sub.nil | refine Sub.cons rfl ?_)), _, (by repeat' constructor)⟩
            · refine WC.exit ?_
              refine WC.seq ?_
              refine WC.seq ?_
              refine WC.region ?_
              obtain rfl : i = X.length := by omega
              rw [List.take_length] at hM
              refine WL.view (fun w h => h.roOne (r := mapR (Value.int .u32) (Value.int .i64) b70 M) (by repeat constructor)) ?_
              refine WL.y (Yl.move rfl) rfl ?_
              refine WL.to (To.rangeM un31 rfl (by repeat constructor)) rfl ?_
              intro r113
              refine WL.nil ?_
              refine WC.block ?_
              refine WC.loop (α := List Nat) (fun _ => [(7, .func (.func 9) #[] #[]), (8, .slice aX X.length cX), (113, .pointer (some ⟨r113, 0, none⟩))]) (fun p => [rngR (Value.int .u32) (Value.int .i64) b70 r113 M p, ownR (.slice aX X.length cX) 24 1 X.length (ints .u32 X), roR (mapR (Value.int .u32) (Value.int .i64) b70 M)]) (fun p => p.Nodup ∧ ∀ j ∈ p, j < M.length) (fun p => M.length - p.length) [] ⟨List.nodup_nil, fun _ h => nomatch h⟩ ⟨(by repeat (first | exact Sub.nil | refine Sub.cons rfl ?_)), _, (by repeat' constructor)⟩ ?_
              rintro done ⟨hdn, hdb⟩
              refine WC.seq ?_
              refine WC.region ?_
              refine WL.to (To.nextM (m := M) (done := done) (kv := Value.int .u32) (vv := Value.int .i64) rfl (by repeat constructor)) rfl ?_
              rintro ⟨o, ho1, ho2⟩
              dsimp only
              refine WL.y (Yl.extract (v := .bool o.isSome) rfl (nx_get o)) rfl ?_
              refine WL.nil ?_
              refine WC.seq ?_
              refine WC.cond rfl (fun g115 => ?_) (fun g115 => ?_)
              · refine WC.skip ?_
                refine WC.block ?_
                refine WC.seq ?_
                obtain ⟨j, rfl⟩ := Option.isSome_iff_exists.1 g115
                obtain ⟨p, hp, hjd⟩ := ho1 j rfl
                have hjm := (List.getElem?_eq_some_iff.1 hp).1
                have hdn' : (done ++ [j]).Nodup := List.nodup_append.2 ⟨hdn, by simp, fun a ha b hb' e => by simp at hb'; subst hb'; subst e; exact hjd ha⟩
                have hdb' : ∀ x ∈ done ++ [j], x < M.length := fun x hx => by
                  rcases List.mem_append.1 hx with hx | hx
                  · exact hdb x hx
                  · rw [List.mem_singleton.1 hx]; exact hjm
                have hle := done_le hdn' hdb'
                rw [List.length_append, List.length_singleton] at hle
                have hpu := hM.key p (List.mem_of_getElem? hp)
                have hpv := hM.at hp
                simp only [Option.toList_some]
                refine WC.region ?_
                refine WL.y (Yl.entryM (m := M) (done := done) (j := j) (kv := Value.int .u32) (vv := Value.int .i64) rfl (by repeat constructor) hp) rfl ?_
                refine WL.y (Yl.extract rfl rfl) rfl ?_
                refine WL.y (Yl.extract rfl rfl) rfl ?_
                refine WL.y (Yl.assign rfl) rfl ?_
                refine WL.y (Yl.assign rfl) rfl ?_
                refine WL.nil ?_
                refine WC.seq ?_
                refine WC.region ?_
                refine WL.y (Yl.move rfl) rfl ?_
                refine WL.y (Yl.gtr rfl rfl) rfl ?_
                refine WL.y (Yl.move rfl) rfl ?_
                refine WL.both (t := 121) rfl (fun g121 => ?_) (fun g121 => ?_)
                · refine WL.on rfl rfl ?_
                  refine WL.y (Yl.move rfl) rfl ?_
                  refine WL.on rfl rfl ?_
                  refine WL.y (Yl.len un22 rfl) rfl ?_
                  refine WL.on rfl rfl ?_
                  refine WL.y (Yl.gtr rfl rfl) rfl ?_
                  refine WL.y (Yl.pickT rfl rfl) rfl ?_
                  refine WL.y (Yl.move rfl) rfl ?_
                  refine WL.both (t := 126) rfl (fun g126 => ?_) (fun g126 => ?_)
                  · refine WL.on rfl rfl ?_
                    have hX0 : 0 < X.length := by have q := g126; simp at q; omega
                    have hp0 : 0 < p.2 := by have q := g121; simp at q; exact q
                    obtain ⟨y, hy0⟩ : ∃ y, X[X.length - 1]? = some y := ⟨_, List.getElem?_eq_getElem (by omega)⟩
                    have hym := List.mem_of_getElem? hy0
                    have hyu := hG y (hXm y hym)
                    have hky := hXr p.1 (by omega) y hym
                    refine WL.y (Yl.move rfl) rfl ?_
                    refine WL.on rfl rfl ?_
                    refine WL.y (Yl.move rfl) rfl ?_
                    refine WL.on rfl rfl ?_
                    refine WL.y (Yl.move rfl) rfl ?_
                    refine WL.on rfl rfl ?_
                    refine WL.y (Yl.move rfl) rfl ?_
                    refine WL.on rfl rfl ?_
                    refine WL.y (Yl.len un22 rfl) rfl ?_
                    refine WL.on rfl rfl ?_
                    refine WL.y (Yl.sub rfl rfl (IntWalk.i64_in _ (by omega))) rfl ?_
                    refine WL.say (t := 132) (v' := .int .i64 ((X.length - 1 : Nat) : Int)) rfl (by (refine congrArg _ ?_; omega)) ?_
                    refine WL.on rfl rfl ?_
                    refine WL.y (Yl.index un22 sz24 rfl rfl (Reads.of (r := ownR (.slice aX X.length cX) 24 1 X.length (ints .u32 X)) RdOf.own (by repeat constructor)) rfl (by omega)) rfl ?_
                    refine WL.on rfl rfl ?_
                    refine WL.y (Yl.loadE (j := X.length - 1) (u := .int .u32 y) on24 rfl (Reads.of (r := ownR (.slice aX X.length cX) 24 1 X.length (ints .u32 X)) RdOf.own (by repeat constructor)) (by simp [ints, hy0])) rfl ?_
                    refine WL.on rfl rfl ?_
                    refine WL.callC (f := .tmp 127) (xs := [.tmp 128, .tmp 134]) (cap := []) rfl rfl en9 (by repeat' constructor) (fun w hw => ah_any p.1 y hpu hyu w hw.left.here) rfl ?_
                    rintro ⟨⟩ -
                    refine WL.know (t := 135) (b' := false) rfl (by simp; omega) ?_
                    refine WL.y (Yl.pickT rfl rfl) rfl ?_
                    refine WL.nil ?_
                    refine WC.condF rfl (by first | rfl | (simp; done) | (simp; omega)) ?_
                    refine WC.skip ?_
                    exact ⟨rfl, done ++ [j], ⟨hdn', hdb'⟩, by rw [List.length_append, List.length_singleton]; omega, (by repeat (first | exact Sub.nil | refine Sub.cons rfl ?_)), _, (by repeat' constructor)⟩
                  · refine WL.off rfl rfl rfl rfl ?_
                    refine WL.off rfl rfl rfl rfl ?_
                    refine WL.off rfl rfl rfl rfl ?_
                    refine WL.off rfl rfl rfl rfl ?_
                    refine WL.off rfl rfl rfl rfl ?_
                    refine WL.off rfl rfl rfl rfl ?_
                    refine WL.off rfl rfl rfl rfl ?_
                    refine WL.off rfl rfl rfl rfl ?_
                    refine WL.off rfl rfl rfl rfl ?_
                    refine WL.y (Yl.pickF rfl rfl) rfl ?_
                    refine WL.nil ?_
                    refine WC.condF rfl (by first | rfl | (simp; done) | (simp; omega)) ?_
                    refine WC.skip ?_
                    exact ⟨rfl, done ++ [j], ⟨hdn', hdb'⟩, by rw [List.length_append, List.length_singleton]; omega, (by repeat (first | exact Sub.nil | refine Sub.cons rfl ?_)), _, (by repeat' constructor)⟩
                · refine WL.off rfl rfl rfl rfl ?_
                  refine WL.off rfl rfl rfl rfl ?_
                  refine WL.off rfl rfl rfl rfl ?_
                  refine WL.y (Yl.pickF rfl rfl) rfl ?_
                  refine WL.y (Yl.move rfl) rfl ?_
                  refine WL.off rfl rfl rfl rfl ?_
                  refine WL.off rfl rfl rfl rfl ?_
                  refine WL.off rfl rfl rfl rfl ?_
                  refine WL.off rfl rfl rfl rfl ?_
                  refine WL.off rfl rfl rfl rfl ?_
                  refine WL.off rfl rfl rfl rfl ?_
                  refine WL.off rfl rfl rfl rfl ?_
                  refine WL.off rfl rfl rfl rfl ?_
                  refine WL.off rfl rfl rfl rfl ?_
                  refine WL.y (Yl.pickF rfl rfl) rfl ?_
                  refine WL.nil ?_
                  refine WC.condF rfl (by first | rfl | (simp; done) | (simp; omega)) ?_
                  refine WC.skip ?_
                  exact ⟨rfl, done ++ [j], ⟨hdn', hdb'⟩, by rw [List.length_append, List.length_singleton]; omega, (by repeat (first | exact Sub.nil | refine Sub.cons rfl ?_)), _, (by repeat' constructor)⟩
              · refine WC.exit ?_
                refine WC.seq ?_
                refine WC.region ?_
                refine WL.y (Yl.assign rfl) rfl ?_
                refine WL.nil ?_
                refine WC.ret ?_
                repeat (with_reducible (first | refine peelT ?_ | refine peelB ?_ | refine peelTX ?_ | refine peelBX ?_ | refine peelBN ?_ | refine peelBO rfl ?_))
                exact ret1 (.inr rfl) Tryz.results3 rfl fun w' h => ⟨(), trivial, rfl, h.sub (by repeat' constructor)⟩
end Go.Proofs.YtbgimajbehodnaaGreatDoor

namespace Go.Proofs.YtbgimajbehodnaaGreatDoor
open Go Go.RowKit
theorem trod_ifc {H : Type} {enc : TypeId × Value → H} {P : Program} {w : World} {base : Nat} {spare : Nat → Bool} {held : Bool} {fuel : Nat} {t : TypeId} {cs : List Value} {x : DataW H × List MemPlace} (ht : isIfcB P t = true) (h : DataW.trod enc P w base spare held fuel t cs = some x) : ∃ v, cs = [v] ∧ (v = .nilIface ∨ ∃ te pe, v = .iface te pe) := by
  obtain ⟨ms, hms⟩ : ∃ ms, P.underlying t = some (.interface ms) := by
    unfold isIfcB at ht
    split at ht
    · rename_i ms h; exact ⟨ms, h⟩
    · cases ht
  cases fuel with
  | zero => simp [DataW.trod] at h
  | succ n =>
    unfold DataW.trod at h
    rw [hms] at h
    match cs, h with
    | [.nilIface], _ => exact ⟨_, rfl, .inl rfl⟩
    | [.iface te pe], _ => exact ⟨_, rfl, .inr ⟨te, pe, rfl⟩⟩
theorem var_ifc {W : World} {nm : String} {g : Nat} {d : DataW Unit} (hg : Tryz.prog.globalNamed nm = some g) (ht : (Tryz.prog.globals[g]?).map (·.type) = some 125) (h : laidMet Tryz.prog [(nm, d)] W) : ∃ v, W.var? Tryz.prog nm = some #[v] ∧ (v = .nilIface ∨ ∃ te pe, v = .iface te pe) := by
  obtain ⟨ps, ⟨g', t', cs, fuel, p, q, hg', ht', hvar, hd, _, _⟩, _⟩ := h
  obtain rfl := Option.some.inj (hg.symm.trans hg')
  obtain rfl := Option.some.inj (ht.symm.trans ht')
  obtain ⟨v, hv, h2⟩ := trod_ifc (by kernel_rfl) hd
  refine ⟨v, ?_, h2⟩
  rw [hvar]
  congr 1
  exact Array.toList_inj.1 hv
theorem var_at {w : World} {nm : String} {g : Nat} {v : Value} {t : TypeId} (hg : Tryz.prog.globalNamed nm = some g) (h : w.heap[g]? = some (.cells #[v] t)) : w.var? Tryz.prog nm = some #[v] := by
  unfold World.var?
  rw [hg, Option.bind_some, h]
theorem max_int {w : World} (h : w.ShapedOpen Tryz.prog) : ∃ m : Int, w.var? Tryz.prog "internal/bytealg.MaxLen" = some #[.int .i64 m] := by
  obtain ⟨cs, hh, hs, _⟩ := h.1 1 #[.int .i64 0] 3 (of_decide_eq_true (by kernel_rfl)) (by kernel_rfl)
  obtain ⟨m, hm⟩ : ∃ m, w.cell? ⟨1, 0, none⟩ = some (.int .i64 m) := cell_of_shapedOpen_int (g := 1) (t := 3) (zero := #[.int .i64 0]) (k := .i64) h (of_decide_eq_true (by kernel_rfl)) (by kernel_rfl) rfl (by kernel_rfl) (by kernel_rfl) (by kernel_rfl)
  refine ⟨m, var_at (t := 3) gn1 ?_⟩
  rw [hh]
  have h1 : 0 < cs.size := by rw [hs]; decide
  have hc : cs[0] = .int .i64 m := by simpa [World.cell?, hh, h1] using hm
  congr 2
  apply Array.ext
  · rw [hs]; rfl
  · intro i h2 h3
    have : i = 0 := by simp at h3; exact h3
    subst this
    exact hc
theorem tab_of {W : World} (h : laidMetH Tryz.prog Rows.reportTopRow.laid W) : Lib.TabIs Tryz.prog W "internal/strconv.uint64pow10" .u64 Lib.pow10Tab := by
  have h2 := h.filter (fun x => x.1 == "internal/strconv.uint64pow10")
  exact Lib.tabIs_of_head (rest := []) gn0 (by kernel_rfl) (n := 20) (t := 212) (e := 34) (by kernel_rfl) (by kernel_rfl) (by kernel_rfl) (by kernel_rfl) h2
theorem gl_of {W : World} (h : laidMetH Tryz.prog Rows.reportTopRow.laid W) (hs : W.ShapedOpen Tryz.prog) : glR.ok W := by
  have h2 : laidMet Tryz.prog [("strconv.ErrSyntax", Rows.laid_strconv_ErrSyntax)] W := h.filter (fun x => x.1 == "strconv.ErrSyntax")
  have h3 : laidMet Tryz.prog [("strconv.ErrRange", Rows.laid_strconv_ErrRange)] W := h.filter (fun x => x.1 == "strconv.ErrRange")
  refine ⟨⟨tab_of h, var_ifc gn2 (by kernel_rfl) h2, var_ifc gn3 (by kernel_rfl) h3, max_int hs⟩, ?_⟩
  obtain ⟨v, e, _⟩ := var_ifc gn3 (by kernel_rfl) h3
  unfold World.var? at e
  rw [gn3, Option.bind_some] at e
  rcases Nat.lt_or_ge 3 W.heap.size with h' | h'
  · exact h'
  · rw [Array.getElem?_eq_none h'] at e; cases e
section
variable {w : World} {base : Nat} {sp : Nat → Bool} {held : Bool} {H : Type} {enc : TypeId × Value → H}
theorem open_u32s {a : Option Addr} {len cap : Nat} {x : DataW H} {p : List MemPlace} (h : DataW.Trod enc Tryz.prog w base sp held 22 (.slice a len cap) x p) : ∃ xs : List Int, xs.length = len ∧ UOk xs ∧ Rd w 1 (.slice a len cap) len (ints .u32 xs) := by
  obtain ⟨xss, h1, h2, h3⟩ := open_flats (d := 1) (ks := [some .u32]) un22 (by kernel_rfl) (by kernel_rfl) h
  have : ∃ xs : List Int, xss = xs.map (fun y => [Value.int .u32 y]) ∧ UOk xs := by
    clear h1 h3
    induction xss with
    | nil => exact ⟨[], rfl, fun x hx => nomatch hx⟩
    | cons ys xss ih =>
      obtain ⟨xs, rfl, hxs⟩ := ih (fun zs hz => h2 zs (by simp [hz]))
      have hf := (h2 ys (by simp)).1
      clear h2 ih
      match ys, hf with
      | [.int q y], hf =>
        obtain ⟨⟨rfl, hw⟩, _⟩ := hf
        refine ⟨y :: xs, rfl, fun z hz => ?_⟩
        rcases List.mem_cons.1 hz with rfl | hz
        · rw [Lit.wf_int_iff] at hw
          have e1 : IntKind.u32.min = 0 := by decide
          have e2 : IntKind.u32.max = 4294967295 := by decide
          rw [e1, e2] at hw
          unfold U32
          omega
        · exact hxs z hz
  obtain ⟨xs, rfl, hxs⟩ := this
  refine ⟨xs, by simpa using h1, hxs, ?_⟩
  have e1 : (xs.map fun y => [Value.int .u32 y]).flatten = ints .u32 xs := by
    clear h1 h2 h3 hxs
    induction xs with
    | nil => rfl
    | cons y ys ih => rw [List.map_cons, List.flatten_cons, ih]; rfl
  rwa [e1] at h3
end
end Go.Proofs.YtbgimajbehodnaaGreatDoor
