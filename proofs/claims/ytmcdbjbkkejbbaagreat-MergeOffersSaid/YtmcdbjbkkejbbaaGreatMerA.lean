/- Rows of records: copied, compared, gone over, collected, searched, put into, taken out of: the walks of the library's functions. -/
import Derived.Test.YtmcdbjbkkejbbaaGreatMerP
import Derived.Test.YtmcdbjbkkejbbaaGreatRecC
import Derived.Test.YtmcdbjbkkejbbaaGreatLibK
import Derived.Test.YtmcdbjbkkejbbaaGreatLibH
import Derived.Test.YtmcdbjbkkejbbaaGreatLibR
namespace Go.Proofs.YtmcdbjbkkejbbaaGreat
open Go Go.RowKit

instance : DecidableEq Rc := fun a b =>
  if h : a.id = b.id ∧ a.peer = b.peer ∧ a.out = b.out ∧ a.oc = b.oc ∧ a.bg = b.bg ∧ a.an = b.an ∧ a.en = b.en then
    isTrue (by
      obtain ⟨h1, h2, h3, h4, h5, h6, h7⟩ := h
      cases a
      cases b
      simp_all)
  else isFalse (fun e => h (by rw [e]; exact ⟨rfl, rfl, rfl, rfl, rfl, rfl, rfl⟩))
def rcV (r : Rc) : Value := .agg r.cells.toArray
theorem vtR : VT Tryz.prog 33 22 Rc.ok rcV := .agg (cel := Rc.cells) (by kernel_rfl) (by kernel_rfl) (by decide) (fun _ => rfl) (fun r h => Rc.cells_len h.len) (fun r => Rc.ones r)
def ROk (xs : List Rc) : Prop := ∀ r ∈ xs, r.ok
theorem ROk.get {xs : List Rc} (h : ROk xs) {j : Nat} {x : Rc} (hx : xs[j]? = some x) : x.ok := h x (List.mem_of_getElem? hx)
theorem Book.rok {xs : List Rc} (h : Book xs) : ROk xs := fun r hr => (h.bk r hr).ok
theorem Rc.eqV {x y : Rc} (hx : x.ok) (hy : y.ok) : eqV x.cells y.cells = decide (x = y) := by
  by_cases h : x = y
  · subst h; rw [eqV_self]; simp
  · rw [eqV_ne, decide_eq_false h]
    exact fun e => h (Rc.cells_inj hx.len hy.len e)
def ysR (xs : List Rc) : List (Array Value) := xs.map fun x => #[rcV x]
theorem ysR_len (xs : List Rc) : (ysR xs).length = xs.length := List.length_map _
theorem ysR_get {xs : List Rc} {i : Nat} {x : Rc} (h : xs[i]? = some x) : (ysR xs)[i]? = some #[rcV x] := by simp [ysR, h]
theorem ysR_at {xs : List Rc} {i : Nat} {y : Array Value} (h : (ysR xs)[i]? = some y) : ∃ x, xs[i]? = some x ∧ y = #[rcV x] := by
  simp [ysR] at h
  obtain ⟨x, h1, h2⟩ := h
  exact ⟨x, h1, h2.symm⟩
theorem ysR_size {xs : List Rc} : ∀ y ∈ ysR xs, y.size = 1 := by
  intro y hy
  obtain ⟨x, _, rfl⟩ := List.mem_map.1 hy
  rfl

theorem cloneR_any (v : Value) (xs : List Rc) (hG : ROk xs) (hl : xs.length ≤ 1000000) (w : World) (hx : RdS w (fpL []) v 22 xs.length (vcs rcV xs)) (hw : OK w (fpL []) [] w) :
    Fn Tryz.prog 51 [v] [] w (fun _ : Option Addr × Nat => True) (fun y => .slice y.1 xs.length y.2) (fun y => [ownR (.slice y.1 xs.length y.2) 33 22 xs.length (vcs rcV xs)]) := by
  obtain ⟨al, cl, rfl, hcl, hml⟩ := hx.rd.form
  refine enterF Tryz.func51 rfl Tryz.ntmps51 rfl hw ?_
  refine WC.seq ?_
  refine WC.region ?_
  refine WL.y (Yl.assign rfl) rfl ?_ -- t2
  refine WL.nil ?_
  refine WC.seq ?_
  refine WC.seq ?_
  refine WC.region ?_
  refine WL.y (Yl.move rfl) rfl ?_ -- t3
  refine WL.y (Yl.eqNil un22 rfl rfl) rfl ?_
  refine WL.nil ?_
  refine WC.cond rfl (fun g4 => ?_) (fun g4 => ?_)
  · refine WC.seq ?_
    refine WC.region ?_
    refine WL.y (Yl.assign rfl) rfl ?_ -- t2
    refine WL.nil ?_
    refine WC.ret ?_
    repeat (first | (with_reducible refine peelT ?_) | (with_reducible refine peelB ?_) | (with_reducible refine peelTX ?_) | (with_reducible refine peelBX ?_) | (with_reducible refine peelBN ?_) | (with_reducible refine peelBO rfl ?_))
    have h0 : xs.length = 0 := by
      rcases hx.rd.2 with ⟨_, h0⟩ | ⟨a, cap, he, _⟩
      · exact h0
      · cases he; simp at g4
    have hxs : xs = [] := List.eq_nil_of_length_eq_zero h0
    subst hxs
    exact ret1 (.inr rfl) Tryz.results51 rfl fun w' h => ⟨(none, 0), trivial, rfl, (h.addNil 33 22).sub (by repeat (first | exact TakeL.nil | (apply TakeL.cons; · repeat (first | exact Take1.head | apply Take1.tail))))⟩
  · refine WC.skip ?_
    refine WC.seq ?_
    refine WC.region ?_
    refine WL.to (To.buildSlice (vs := []) un22 zs33 rfl rfl (by simp) (by decide) (by decide)) rfl ?_
    intro b5
    rw [show flat [] = [] from rfl]
    refine WL.view (fun w h => h.blkOwn (b := b5) (size := 22) (n := 0) (by repeat (first | exact Take1.head | apply Take1.tail)) (by unfold maxLen; omega) rfl) ?_
    refine WL.y (Yl.move rfl) rfl ?_ -- t6
    refine WL.to (To.append sl22 rfl rfl (by repeat (first | exact Take1.head | apply Take1.tail)) (Reads.s hx) (vtR.ones _) (Nat.zero_add _) (List.nil_append _) (by unfold maxLen; omega) (by omega)) rfl ?_ -- t7
    rintro ⟨⟨ao7, c7⟩, hc7⟩
    dsimp only at hc7 ⊢
    refine WL.y (Yl.assign rfl) rfl ?_ -- t2
    refine WL.nil ?_
    refine WC.ret ?_
    repeat (first | (with_reducible refine peelT ?_) | (with_reducible refine peelB ?_) | (with_reducible refine peelTX ?_) | (with_reducible refine peelBX ?_) | (with_reducible refine peelBN ?_) | (with_reducible refine peelBO rfl ?_))
    exact ret1 (.inr rfl) Tryz.results51 rfl fun w' h => ⟨(ao7, c7), trivial, rfl, h.sub (by repeat (first | exact TakeL.nil | (apply TakeL.cons; · repeat (first | exact Take1.head | apply Take1.tail))))⟩
theorem equalR_any (v1 v2 : Value) (xs ys : List Rc) (h1 : ROk xs) (h2 : ROk ys) (hl : xs.length ≤ 1099511627776) (w : World) (hx : RdS w (fpL []) v1 22 xs.length (vcs rcV xs)) (hy : RdS w (fpL []) v2 22 ys.length (vcs rcV ys)) (hw : OK w (fpL []) [] w) :
    Fn Tryz.prog 16 [v1, v2] [] w (fun _ : Unit => True) (fun _ => .bool (decide (xs = ys))) (fun _ => []) := by
  obtain ⟨al, cl, rfl, hcl, hml⟩ := hx.rd.form
  obtain ⟨bl, dl, rfl, hdl, hml2⟩ := hy.rd.form
  refine enterF Tryz.func16 rfl Tryz.ntmps16 rfl hw ?_
  refine WC.seq ?_
  refine WC.region ?_
  refine WL.y (Yl.assign rfl) rfl ?_ -- t4
  refine WL.nil ?_
  refine WC.seq ?_
  refine WC.seq ?_
  refine WC.region ?_
  refine WL.y (Yl.move rfl) rfl ?_ -- t6
  refine WL.y (Yl.len un22 rfl) rfl ?_ -- t7
  refine WL.y (Yl.move rfl) rfl ?_ -- t8
  refine WL.y (Yl.len un22 rfl) rfl ?_ -- t9
  refine WL.y (Yl.neq rfl rfl) rfl ?_ -- t10
  refine WL.nil ?_
  refine WC.condD rfl (fun g10 => ?_) (fun g10 => ?_)
  · refine WC.seq ?_
    refine WC.region ?_
    refine WL.y (Yl.assign rfl) rfl ?_ -- t4
    refine WL.nil ?_
    refine WC.ret ?_
    repeat (first | (with_reducible refine peelT ?_) | (with_reducible refine peelB ?_) | (with_reducible refine peelTX ?_) | (with_reducible refine peelBX ?_) | (with_reducible refine peelBN ?_) | (with_reducible refine peelBO rfl ?_))
    exact ret1 (.inr rfl) Tryz.results16 rfl fun w' h => ⟨(), trivial, by rw [decide_eq_false]; intro e; subst e; omega, h.sub (by repeat (first | exact TakeL.nil | (apply TakeL.cons; · repeat (first | exact Take1.head | apply Take1.tail))))⟩
  · refine WC.skip ?_
    refine WC.seq ?_
    refine WC.seq ?_
    refine WC.region ?_
    refine WL.y (Yl.move rfl) rfl ?_ -- t11
    refine WL.y (Yl.len un22 rfl) rfl ?_ -- t12
    refine WL.y (Yl.move rfl) rfl ?_ -- t13
    refine WL.nil ?_
    refine WC.block ?_
    refine WC.loop (α := Nat) (fun k => [(0, .slice al xs.length cl), (1, .slice bl ys.length dl), (12, .int .i64 (xs.length : Int)), (13, .int .i64 (k : Int))]) (fun _ => []) (fun k => k ≤ xs.length ∧ xs.take k = ys.take k) (fun k => xs.length - k) 0 ⟨Nat.zero_le _, rfl⟩ ⟨(by repeat (first | exact Sub.nil | refine Sub.cons rfl ?_)), _, (by repeat (first | exact TakeL.nil | (apply TakeL.cons; · repeat (first | exact Take1.head | apply Take1.tail))))⟩ ?_
    rintro k ⟨hk, hsame⟩
    refine WC.seq ?_
    refine WC.region ?_
    refine WL.y (Yl.lss rfl rfl) rfl ?_ -- t14
    refine WL.nil ?_
    refine WC.seq ?_
    refine WC.condD rfl (fun g14 => ?_) (fun g14 => ?_)
    · refine WC.skip ?_
      refine WC.seq ?_
      refine WC.block ?_
      refine WC.seq ?_
      refine WC.region ?_
      refine WL.y (Yl.move rfl) rfl ?_ -- t15
      refine WL.y (Yl.assign rfl) rfl ?_ -- t5
      refine WL.nil ?_
      refine WC.seq ?_
      obtain ⟨x, hxx⟩ : ∃ x, xs[k]? = some x := ⟨_, List.getElem?_eq_getElem (by omega)⟩
      obtain ⟨y, hyy⟩ : ∃ y, ys[k]? = some y := ⟨_, List.getElem?_eq_getElem (by omega)⟩
      refine WC.drawRead mixed (by kernel_rfl) ?_
      refine WH.y (Yl.move rfl) rfl ?_ -- t16
      refine WH.y (Yl.move rfl) rfl ?_ -- t17
      refine WH.y (Yl.index un22 sz33 rfl rfl (Reads.s hx) rfl (by omega)) rfl ?_ -- t18
      refine WH.y (Yl.loadV (j := k) (u := x) vtR h1 rfl (Reads.s hx) rfl hxx) rfl ?_
      refine WH.y (Yl.move rfl) rfl ?_ -- t20
      refine WH.y (Yl.move rfl) rfl ?_ -- t21
      refine WH.y (Yl.index un22 sz33 rfl rfl (Reads.s hy) rfl (by omega)) rfl ?_ -- t22
      refine WH.y (Yl.loadV (j := k) (u := y) vtR h2 rfl (Reads.s hy) rfl hyy) rfl ?_
      refine WH.y (Yl.neA (xs := x.cells) (ys := y.cells) flRec rfl rfl (h1.get hxx).fits (h2.get hyy).fits) rfl ?_
      refine WH.say (t := 24) (v' := .bool (decide (x ≠ y))) rfl (by rw [Rc.eqV (h1.get hxx) (h2.get hyy)]; simp) ?_
      refine WH.nil ?_
      refine WC.condD rfl (fun g24 => ?_) (fun g24 => ?_)
      · refine WC.seq ?_
        refine WC.region ?_
        refine WL.y (Yl.assign rfl) rfl ?_ -- t4
        refine WL.nil ?_
        refine WC.ret ?_
        repeat (first | (with_reducible refine peelT ?_) | (with_reducible refine peelB ?_) | (with_reducible refine peelTX ?_) | (with_reducible refine peelBX ?_) | (with_reducible refine peelBN ?_) | (with_reducible refine peelBO rfl ?_))
        exact ret1 (.inr rfl) Tryz.results16 rfl fun w' h => ⟨(), trivial, by rw [decide_eq_false]; intro e; subst e; rw [hxx] at hyy; cases hyy; exact g24 rfl, h.sub (by repeat (first | exact TakeL.nil | (apply TakeL.cons; · repeat (first | exact Take1.head | apply Take1.tail))))⟩
      · refine WC.skip ?_
        refine WC.region ?_
        refine WL.y (Yl.add rfl rfl (IntWalk.i64_in _ (by omega))) rfl ?_ -- t25
        refine WL.y (Yl.move rfl) rfl ?_ -- t13
        refine WL.nil ?_
        exact ⟨rfl, k + 1, ⟨by omega, by
          have e : x = y := Classical.not_not.1 g24
          rw [← take_snoc _ _ _ hxx, ← take_snoc _ _ _ hyy, hsame, e]⟩, by omega, (by repeat (first | exact Sub.nil | refine Sub.cons rfl ?_)), _, (by repeat (first | exact TakeL.nil | (apply TakeL.cons; · repeat (first | exact Take1.head | apply Take1.tail))))⟩
    · refine WC.exit ?_
      refine WC.seq ?_
      refine WC.region ?_
      refine WL.y (Yl.assign rfl) rfl ?_ -- t4
      refine WL.nil ?_
      refine WC.ret ?_
      repeat (first | (with_reducible refine peelT ?_) | (with_reducible refine peelB ?_) | (with_reducible refine peelTX ?_) | (with_reducible refine peelBX ?_) | (with_reducible refine peelBN ?_) | (with_reducible refine peelBO rfl ?_))
      have hkn : k = xs.length := by omega
      subst hkn
      have hlen : xs.length = ys.length := by omega
      rw [List.take_length, hlen, List.take_length] at hsame
      exact ret1 (.inr rfl) Tryz.results16 rfl fun w' h => ⟨(), trivial, by rw [decide_eq_true hsame], h.sub (by repeat (first | exact TakeL.nil | (apply TakeL.cons; · repeat (first | exact Take1.head | apply Take1.tail))))⟩
set_option maxRecDepth 100000 in
theorem val1_iter (b1 : Nat) (v : Value) (xs : List Rc) (hG : ROk xs) (hl : xs.length ≤ 1000000) (w : World) (hA : OK w (fpL [roR (blkR b1 22 [v]), rdR v 22 xs.length (vcs rcV xs)]) [roR (blkR b1 22 [v]), rdR v 22 xs.length (vcs rcV xs)] w) :
    Iter Tryz.prog 52 ([.pointer (some ⟨b1, 0, none⟩)] : List Value).toArray (fpL [roR (blkR b1 22 [v]), rdR v 22 xs.length (vcs rcV xs)]).rd (ysR xs) w := by
  obtain ⟨al, cl, rfl, hcl, hml⟩ := (hA.get (.tail .head) : Rd _ _ _ _ _).form
  have hwr : ∀ r ∈ [roR (blkR b1 22 [.slice al xs.length cl]), rdR (.slice al xs.length cl) 22 xs.length (vcs rcV xs)], ∀ k, ¬ r.wr k := by
    intro r hr k hk
    simp at hr
    rcases hr with rfl | rfl <;> exact hk
  have hln := ysR_len xs
  refine iter_of Tryz.func52 rfl Tryz.ntmps52 rfl hA hwr ?_
  intro l W g gx T0 hy
  refine WC.seq ?_
  refine WC.region ?_
  refine WL.y (Yl.loadRo on22 rfl (by repeat (first | exact Take1.head | apply Take1.tail)) (by rfl)) rfl ?_
  refine WL.y (Yl.len un22 rfl) rfl ?_ -- t6
  refine WL.y (Yl.move rfl) rfl ?_ -- t7
  refine WL.nil ?_
  refine WC.block ?_
  refine WC.loop (α := Nat × (Nat → Prop)) (fun p => [(0, .func (.yield l) #[] #[]), (5, .slice al xs.length cl), (6, .int .i64 (xs.length : Int)), (7, .int .i64 (p.1 : Int))]) (fun p => [gstR g p.1 p.2, roR (blkR b1 22 [.slice al xs.length cl]), rdR (.slice al xs.length cl) 22 xs.length (vcs rcV xs)]) (fun p => p.1 ≤ xs.length) (fun p => xs.length - p.1) (0, T0) (Nat.zero_le _) ⟨(by repeat (first | exact Sub.nil | refine Sub.cons rfl ?_)), _, (by repeat (first | exact TakeL.nil | (apply TakeL.cons; · repeat (first | exact Take1.head | apply Take1.tail))))⟩ ?_
  rintro ⟨i, T⟩ hi
  dsimp only at hi ⊢
  refine WC.seq ?_
  refine WC.region ?_
  refine WL.y (Yl.lss rfl rfl) rfl ?_ -- t8
  refine WL.nil ?_
  refine WC.seq ?_
  refine WC.condD rfl (fun g8 => ?_) (fun g8 => ?_)
  · refine WC.skip ?_
    refine WC.seq ?_
    refine WC.block ?_
    refine WC.seq ?_
    refine WC.region ?_
    have hil : i < xs.length := by omega
    obtain ⟨x, hx0⟩ : ∃ x, xs[i]? = some x := ⟨_, List.getElem?_eq_getElem hil⟩
    have hxo := hG.get hx0
    have h22 := Rc.cells_len hxo.len
    refine WL.y (Yl.index un22 sz33 rfl rfl (Reads.of (r := rdR (.slice al xs.length cl) 22 xs.length (vcs rcV xs)) RdOf.rd' (by repeat (first | exact Take1.head | apply Take1.tail))) rfl (by omega)) rfl ?_ -- t9
    refine WL.y (Yl.loadV (j := i) (u := x) vtR hG rfl (Reads.of (r := rdR (.slice al xs.length cl) 22 xs.length (vcs rcV xs)) RdOf.rd' (by repeat (first | exact Take1.head | apply Take1.tail))) rfl hx0) rfl ?_
    refine WL.to (To.alloc (cs := Rc.zero.cells) zr33 rfl) rfl ?_ -- t4
    intro b4
    refine WL.sto (Sto.agg sz33 rfl rfl (by repeat (first | exact Take1.head | apply Take1.tail)) (Rc.ones _) h22 (by rfl) (Rc.all (r := Rc.zero) rfl x.cells h22)) (fun _ h => nomatch h) ?_ -- st 1
    refine WL.nil ?_
    refine WC.seq ?_
    refine WC.region ?_
    refine WL.y (Yl.move rfl) rfl ?_ -- t11
    refine WL.y (Yl.loadN ag33 rfl (by repeat (first | exact Take1.head | apply Take1.tail)) (leB (by rw [h22]; omega)) (Rc.call hxo.len)) rfl ?_ -- t12
    refine WL.yield (xs := [.tmp 12]) (i := i) hy rfl rfl (ysR_get hx0) (by repeat (first | exact Take1.head | apply Take1.tail)) rfl ?_
    intro b13 T'
    refine WL.y (Yl.not rfl) rfl ?_ -- t14
    refine WL.nil ?_
    refine WC.cond rfl (fun g14 => ?_) (fun g14 => ?_)
    · refine WC.ret ?_
      repeat (first | (with_reducible refine peelT ?_) | (with_reducible refine peelB ?_) | (with_reducible refine peelTX ?_) | (with_reducible refine peelBX ?_) | (with_reducible refine peelBN ?_) | (with_reducible refine peelBO rfl ?_))
      have hb : b13 = false := by simpa using g14
      subst hb
      simp only [Bool.false_eq_true, if_false]
      exact itStop (i := i) (.inr rfl) Tryz.results52 (by repeat (first | exact Take1.head | apply Take1.tail)) (by rw [hln]; exact hil)
    · refine WC.skip ?_
      refine WC.region ?_
      refine WL.y (Yl.add rfl rfl (IntWalk.i64_in _ (by omega))) rfl ?_ -- t15
      refine WL.y (Yl.move rfl) rfl ?_ -- t7
      refine WL.nil ?_
      have hb : b13 = true := by simpa using g14
      subst hb
      simp only [if_true]
      exact ⟨rfl, (i + 1, T'), by dsimp only; omega, by dsimp only; omega, (by repeat (first | exact Sub.nil | refine Sub.cons rfl ?_)), _, (by repeat (first | exact TakeL.nil | (apply TakeL.cons; · repeat (first | exact Take1.head | apply Take1.tail))))⟩
  · refine WC.exit ?_
    repeat (first | (with_reducible refine peelT ?_) | (with_reducible refine peelB ?_) | (with_reducible refine peelTX ?_) | (with_reducible refine peelBX ?_) | (with_reducible refine peelBN ?_) | (with_reducible refine peelBO rfl ?_))
    have hx : i = (ysR xs).length := by rw [hln]; omega
    rw [← hx]
    exact itEnd (.inl rfl) Tryz.results52 (by repeat (first | exact Take1.head | apply Take1.tail))
theorem val_any (v : Value) (xs : List Rc) (hG : ROk xs) (hl : xs.length ≤ 1000000) (w : World) (hw : OK w (fpL [rdR v 22 xs.length (vcs rcV xs)]) [rdR v 22 xs.length (vcs rcV xs)] w) :
    Fn Tryz.prog 24 [v] [rdR v 22 xs.length (vcs rcV xs)] w (fun _ : Nat × (Nat → Prop) => True) (fun y => .func (.func 52) #[] #[.pointer (some ⟨y.1, 0, none⟩)]) (fun y => [itR Tryz.prog 52 [.pointer (some ⟨y.1, 0, none⟩)] y.2 (ysR xs)]) := by
  obtain ⟨al, cl, rfl, hcl, hml⟩ := (hw.get .head : Rd _ _ _ _ _).form
  refine enterF Tryz.func24 rfl Tryz.ntmps24 rfl hw ?_
  refine WC.seq ?_
  refine WC.region ?_
  refine WL.to (To.box (cs := [.slice al xs.length cl]) rfl rfl) rfl ?_ -- t1
  intro b1
  refine WL.y (Yl.assign rfl) rfl ?_ -- t2
  refine WL.nil ?_
  refine WC.seq ?_
  refine WC.region ?_
  refine WL.y (Yl.makeFunc (xs := []) (ys := [.tmp 1]) rfl rfl) rfl ?_ -- t3
  refine WL.y (Yl.assign rfl) rfl ?_ -- t2
  refine WL.nil ?_
  refine WC.ret ?_
  repeat (first | (with_reducible refine peelT ?_) | (with_reducible refine peelB ?_) | (with_reducible refine peelTX ?_) | (with_reducible refine peelBX ?_) | (with_reducible refine peelBN ?_) | (with_reducible refine peelBO rfl ?_))
  refine ret1 (.inr rfl) Tryz.results24 rfl fun w' hh => ⟨(b1, (fpL [roR (blkR b1 22 [.slice al xs.length cl]), rdR (.slice al xs.length cl) 22 xs.length (vcs rcV xs)]).rd), trivial, rfl, ?_⟩
  have hA : OK w _ ([blkR b1 22 [.slice al xs.length cl], rdR (.slice al xs.length cl) 22 xs.length (vcs rcV xs)] ++ []) w' := hh.sub (by repeat (first | exact TakeL.nil | (apply TakeL.cons; · repeat (first | exact Take1.head | apply Take1.tail))))
  have hro : OK w _ ([roR (blkR b1 22 [.slice al xs.length cl]), rdR (.slice al xs.length cl) 22 xs.length (vcs rcV xs)] ++ []) w' := hA.roOne .head
  exact hro.toIter (val1_iter b1 (.slice al xs.length cl) xs hG hl w' hro.here) (fun k hk => hk)
set_option maxRecDepth 100000 in
theorem appSeq_any (gf : Nat) (lb : List Value) (own : Nat → Prop) (xs : List Rc) (hG : ROk xs) (hl : xs.length ≤ 1000000) (eg : ∀ args w, (callFunc gf args).run Tryz.prog w = .ok (.enter gf args) w) (w : World) (hw : OK w (fpL [itR Tryz.prog gf lb own (ysR xs)]) [itR Tryz.prog gf lb own (ysR xs)] w) :
    Fn Tryz.prog 26 [.slice none 0 0, .func (.func gf) #[] lb.toArray] [itR Tryz.prog gf lb own (ysR xs)] w (fun _ : Option Addr × Nat => True) (fun y => .slice y.1 xs.length y.2) (fun y => [ownR (.slice y.1 xs.length y.2) 33 22 xs.length (vcs rcV xs)]) := by
  refine enterM Tryz.func26 rfl Tryz.ntmps26 rfl hw ?_
  refine WC.seq ?_
  refine WC.region ?_
  refine WL.to (To.box (cs := [.slice none 0 0]) rfl rfl) rfl ?_ -- t2
  intro b2
  refine WL.y (Yl.assign rfl) rfl ?_ -- t4
  refine WL.nil ?_
  refine WC.seq ?_
  refine WC.seq ?_
  refine WC.region ?_
  refine WL.y (Yl.move rfl) rfl ?_ -- t6
  refine WL.nil ?_
  refine WC.block ?_
  refine WC.view (fun w h => h.addNil 33 22) ?_
  refine WC.range (α := Option Addr × Nat) (lb := lb) (xs := ysR xs) (fun i s => [blkR b2 22 [.slice s.1 (xs.take i).length s.2], ownR (.slice s.1 (xs.take i).length s.2) 33 22 (xs.take i).length (vcs rcV (xs.take i))]) (fun _ _ => True) (none, 0) rfl eg ysR_size rfl (by repeat (first | exact Take1.head | apply Take1.tail)) trivial (by repeat (first | exact TakeL.nil | (apply TakeL.cons; · repeat (first | exact Take1.head | apply Take1.tail)))) ?_ ?_
  · rintro l2 i x ⟨ao, ca⟩ hx - W
    dsimp only
    obtain ⟨x, hx0, rfl⟩ := ysR_at hx
    have hil := (List.getElem?_eq_some_iff.1 hx0).1
    have hxo := hG.get hx0
    have h22 := Rc.cells_len hxo.len
    have hnx : xs.take (i + 1) = xs.take i ++ [x] := (take_snoc _ _ _ hx0).symm
    have htl : (xs.take i).length = i := by rw [List.length_take]; omega
    show WC _ _ _ ((7, .agg x.cells.toArray) :: _) _ _
    refine WC.region ?_
    refine WL.to (To.alloc (cs := Rc.zero.cells) zr33 rfl) rfl ?_ -- t5
    intro b5
    refine WL.sto (Sto.agg sz33 rfl rfl (by repeat (first | exact Take1.head | apply Take1.tail)) (Rc.ones _) h22 (by rfl) (Rc.all (r := Rc.zero) rfl x.cells h22)) (fun _ h => nomatch h) ?_ -- st 1
    refine WL.nil ?_
    repeat (first | (with_reducible refine peelT ?_) | (with_reducible refine peelB ?_) | (with_reducible refine peelTX ?_) | (with_reducible refine peelBX ?_) | (with_reducible refine peelBN ?_) | (with_reducible refine peelBO rfl ?_))
    refine fun W2 => ?_
    refine WC.block ?_
    refine WC.region ?_
    refine WL.y (Yl.load on22 rfl (by repeat (first | exact Take1.head | apply Take1.tail)) (by rfl)) rfl ?_ -- t8
    refine WL.y (Yl.loadN ag33 rfl (by repeat (first | exact Take1.head | apply Take1.tail)) (leB (by rw [h22]; omega)) (Rc.call hxo.len)) rfl ?_ -- t9
    refine WL.to (To.buildSlice (vs := [.agg x.cells.toArray]) un22 zs33 rfl rfl (by simp [Value.cells, h22]) (by decide) (by decide)) rfl ?_
    intro b10
    refine WL.to (To.append sl22 rfl rfl (by repeat (first | exact Take1.head | apply Take1.tail)) (Reads.of (RdOf.blk (size := 22) (cs := flat [.agg x.cells.toArray]) (cs' := x.cells) (Nat.le_refl _) (by unfold maxLen; omega) (by simp [flat, Value.cells, h22]) (by simp [flat, Value.cells]; rw [List.take_of_length_le (by rw [h22]; omega)])) (by repeat (first | exact Take1.head | apply Take1.tail))) (Rc.ones _) (show (xs.take i).length + 1 = (xs.take (i + 1)).length by rw [hnx]; simp) (show vcs rcV (xs.take i) ++ x.cells = vcs rcV (xs.take (i + 1)) by rw [hnx, vcs_app, vcs_one]; rfl) (by rw [hnx]; simp; unfold maxLen; omega) (by rw [hnx]; simp; omega)) rfl ?_ -- t11
    rintro ⟨⟨ao11, c11⟩, hc11⟩
    dsimp only at hc11 ⊢
    refine WL.sto (Sto.one sz22 rfl rfl (by repeat (first | exact Take1.head | apply Take1.tail)) rfl (by rfl) (by rfl)) (fun _ h => nomatch h) ?_ -- st 2
    refine WL.nil ?_
    repeat (first | (with_reducible refine peelT ?_) | (with_reducible refine peelB ?_) | (with_reducible refine peelTX ?_) | (with_reducible refine peelBX ?_) | (with_reducible refine peelBN ?_) | (with_reducible refine peelBO rfl ?_))
    exact ⟨[blkR b2 22 [.slice ao11 (xs.take (i + 1)).length c11], ownR (.slice ao11 (xs.take (i + 1)).length c11) 33 22 (xs.take (i + 1)).length (vcs rcV (xs.take (i + 1)))], _, (by repeat (first | exact TakeL.nil | (apply TakeL.cons; · repeat (first | exact Take1.head | apply Take1.tail)))), (ao11, c11), trivial, rfl⟩
  · rintro ⟨ao, ca⟩ D -
    rw [ysR_len, List.take_length]
    dsimp only [List.cons_append, List.nil_append]
    refine WC.seq ?_
    refine WC.region ?_
    refine WL.y (Yl.load on22 rfl (by repeat (first | exact Take1.head | apply Take1.tail)) (by rfl)) rfl ?_ -- t12
    refine WL.y (Yl.assign rfl) rfl ?_ -- t4
    refine WL.nil ?_
    refine WC.ret ?_
    repeat (first | (with_reducible refine peelT ?_) | (with_reducible refine peelB ?_) | (with_reducible refine peelTX ?_) | (with_reducible refine peelBX ?_) | (with_reducible refine peelBN ?_) | (with_reducible refine peelBO rfl ?_))
    refine retM.of (.cons (by repeat (first | exact Take1.head | apply Take1.tail)) .nil) ?_
    exact ret1 (.inr rfl) Tryz.results26 rfl fun w' h => ⟨(ao, ca), trivial, rfl, h.sub (by repeat (first | exact TakeL.nil | (apply TakeL.cons; · repeat (first | exact Take1.head | apply Take1.tail))))⟩
theorem col_any (gf : Nat) (lb : List Value) (own : Nat → Prop) (xs : List Rc) (hG : ROk xs) (hl : xs.length ≤ 1000000) (eg : ∀ args w, (callFunc gf args).run Tryz.prog w = .ok (.enter gf args) w) (w : World) (hw : OK w (fpL [itR Tryz.prog gf lb own (ysR xs)]) [itR Tryz.prog gf lb own (ysR xs)] w) :
    Fn Tryz.prog 7 [.func (.func gf) #[] lb.toArray] [itR Tryz.prog gf lb own (ysR xs)] w (fun _ : Option Addr × Nat => True) (fun y => .slice y.1 xs.length y.2) (fun y => [ownR (.slice y.1 xs.length y.2) 33 22 xs.length (vcs rcV xs)]) := by
  refine enterF Tryz.func7 rfl Tryz.ntmps7 rfl hw ?_
  refine WC.seq ?_
  refine WC.region ?_
  refine WL.y (Yl.assign rfl) rfl ?_ -- t2
  refine WL.nil ?_
  refine WC.seq ?_
  refine WC.region ?_
  refine WL.y (Yl.move rfl) rfl ?_ -- t3
  refine WL.callC (xs := [_, .tmp 3]) (cap := []) rfl rfl en26 (by repeat (first | exact TakeL.nil | (apply TakeL.cons; · repeat (first | exact Take1.head | apply Take1.tail)))) (fun w hw => appSeq_any gf lb own xs hG hl eg w hw.left.here) rfl ?_ -- t4 slices.AppendSeq[[]hailer/api.Record,hailer/api.Record]
  rintro ⟨a4, c4⟩ -
  dsimp only [List.cons_append, List.nil_append]
  refine WL.y (Yl.assign rfl) rfl ?_ -- t2
  refine WL.nil ?_
  refine WC.ret ?_
  repeat (first | (with_reducible refine peelT ?_) | (with_reducible refine peelB ?_) | (with_reducible refine peelTX ?_) | (with_reducible refine peelBX ?_) | (with_reducible refine peelBN ?_) | (with_reducible refine peelBO rfl ?_))
  exact ret1 (.inr rfl) Tryz.results7 rfl fun w' h => ⟨(a4, c4), trivial, rfl, h.sub (by repeat (first | exact TakeL.nil | (apply TakeL.cons; · repeat (first | exact Take1.head | apply Take1.tail))))⟩
theorem rc_len {xs : List Rc} (h : ROk xs) : (vcs rcV xs).length = xs.length * 22 := vtR.size h
theorem rc_take {xs : List Rc} (h : ROk xs) (i : Nat) : (vcs rcV xs).take (i * 22) = vcs rcV (xs.take i) := vtR.take i h
theorem rc_drop {xs : List Rc} (h : ROk xs) (i : Nat) : (vcs rcV xs).drop (i * 22) = vcs rcV (xs.drop i) := vtR.drop i h
theorem rc_cat {xs ys : List Rc} {x : Rc} : vcs rcV xs ++ x.cells ++ vcs rcV ys = vcs rcV (xs ++ x :: ys) := by
  rw [vcs_app, vcs_cons, List.append_assoc]
  rfl
theorem rdRc {bv : Nat} {x : Rc} (hx : x.ok) : RdOf (blkR bv 33 x.cells) (.slice (some ⟨bv, 0, none⟩) 1 1) 22 1 x.cells := RdOf.blk (Nat.le_refl _) (by unfold maxLen; omega) (by rw [Rc.cells_len hx.len]; omega) (by rw [List.drop_zero, List.take_of_length_le (by rw [Rc.cells_len hx.len]; omega)])
theorem ext_overlaps {w : World} {args : Array Value} {v : Value} (h : (Extern.SlicesOverlaps.overlaps #[22, 22] #[4] args).run Tryz.prog w = .ok v w) : (callFunc 91 args).run Tryz.prog w = .ok (.value v) w := by
  rw [run_callFunc_extern (e := Extern.SlicesOverlaps.overlaps #[22, 22] #[4]) Tryz.func91 (by kernel_rfl) (by kernel_rfl) (by kernel_rfl) (by kernel_rfl), h]
  rfl
def zc : Array Value := Rc.zero.cells.toArray
set_option maxRecDepth 100000 in
theorem insR_any (ao : Option Addr) (cap : Nat) (xs : List Rc) (x : Rc) (hG : ROk xs) (hx : x.ok) (i bv : Nat) (hl : xs.length ≤ 1000000) (hi : i ≤ xs.length) (w : World)
    (hw : OK w (fpL [ownR (.slice ao xs.length cap) 33 22 xs.length (vcs rcV xs), blkR bv 33 x.cells]) [ownR (.slice ao xs.length cap) 33 22 xs.length (vcs rcV xs), blkR bv 33 x.cells] w) :
    Fn Tryz.prog 73 [.slice ao xs.length cap, .int .i64 (i : Int), .slice (some ⟨bv, 0, none⟩) 1 1] [ownR (.slice ao xs.length cap) 33 22 xs.length (vcs rcV xs), blkR bv 33 x.cells] w (fun _ : Option Addr × Nat => True) (fun y => .slice y.1 (xs.length + 1) y.2)
      (fun y => [ownR (.slice y.1 (xs.length + 1) y.2) 33 22 (xs.length + 1) (vcs rcV (xs.take i ++ x :: xs.drop i))]) := by
  have hcap : xs.length ≤ cap := Sown.le (hw.get .head)
  have hml : cap ≤ maxLen := by obtain ⟨_, _, he, _, h⟩ := (hw.get .head : Sown _ _ _ _ _ _).rd.form; cases he; exact h
  have hlen := rc_len hG
  have h22 := Rc.cells_len hx.len
  refine enterF Tryz.func73 rfl Tryz.ntmps73 rfl hw ?_
  refine WC.seq ?_
  refine WC.region ?_
  refine WL.y (Yl.assign rfl) rfl ?_ -- t6
  refine WL.nil ?_
  refine WC.seq ?_
  refine WC.region ?_
  refine WL.y (Yl.move rfl) rfl ?_ -- t10
  refine WL.y (Yl.move rfl) rfl ?_ -- t11
  refine WL.y (Yl.slice un22 sz33 rfl ⟨_, rfl⟩ rfl (by omega) (by omega)) rfl ?_ -- t12
  refine WL.nil ?_
  refine WC.seq ?_
  refine WC.region ?_
  refine WL.y (Yl.move rfl) rfl ?_ -- t13
  refine WL.y (Yl.len un22 rfl) rfl ?_ -- t14
  refine WL.y (Yl.assign rfl) rfl ?_ -- t7
  refine WL.nil ?_
  refine WC.seq ?_
  refine WC.seq ?_
  refine WC.region ?_
  refine WL.y (Yl.move rfl) rfl ?_ -- t15
  refine WL.y (Yl.eql rfl rfl) rfl ?_ -- t16
  refine WL.nil ?_
  refine WC.condF rfl (by first | rfl | (simp; done) | (simp; omega)) ?_
  refine WC.skip ?_
  refine WC.seq ?_
  refine WC.region ?_
  refine WL.y (Yl.move rfl) rfl ?_ -- t18
  refine WL.y (Yl.len un22 rfl) rfl ?_ -- t19
  refine WL.y (Yl.assign rfl) rfl ?_ -- t8
  refine WL.nil ?_
  refine WC.seq ?_
  refine WC.seq ?_
  refine WC.region ?_
  refine WL.y (Yl.move rfl) rfl ?_ -- t20
  refine WL.y (Yl.move rfl) rfl ?_ -- t21
  refine WL.y (Yl.eql rfl rfl) rfl ?_ -- t22
  refine WL.nil ?_
  refine WC.condD rfl (fun g22 => ?_) (fun g22 => ?_)
  · refine WC.seq ?_
    refine WC.region ?_
    refine WL.y (Yl.move rfl) rfl ?_ -- t23
    refine WL.y (Yl.move rfl) rfl ?_ -- t24
    refine WL.to (To.append sl22 rfl rfl (by repeat (first | exact Take1.head | apply Take1.tail)) (Reads.of (rdRc hx) (by repeat (first | exact Take1.head | apply Take1.tail))) (Rc.ones x) rfl (show vcs rcV xs ++ x.cells = vcs rcV (xs.take i ++ x :: xs.drop i) from by
      obtain rfl : i = xs.length := by omega
      rw [List.take_length, List.drop_length, ← rc_cat]; simp [vcs, flat]) (by unfold maxLen; omega) (by omega)) rfl ?_ -- t25
    rintro ⟨⟨ao25, c25⟩, hc25⟩
    dsimp only at hc25 ⊢
    refine WL.y (Yl.assign rfl) rfl ?_ -- t6
    refine WL.nil ?_
    refine WC.ret ?_
    repeat (first | (with_reducible refine peelT ?_) | (with_reducible refine peelB ?_) | (with_reducible refine peelTX ?_) | (with_reducible refine peelBX ?_) | (with_reducible refine peelBN ?_) | (with_reducible refine peelBO rfl ?_))
    exact ret1 (.inr rfl) Tryz.results73 rfl fun w' h => ⟨(ao25, c25), trivial, rfl, h.sub (by repeat (first | exact TakeL.nil | (apply TakeL.cons; · repeat (first | exact Take1.head | apply Take1.tail))))⟩
  · refine WC.skip ?_
    refine WC.seq ?_
    refine WC.seq ?_
    refine WC.region ?_
    refine WL.y (Yl.move rfl) rfl ?_ -- t26
    refine WL.y (Yl.move rfl) rfl ?_ -- t27
    refine WL.y (Yl.add rfl rfl (IntWalk.i64_in _ (by omega))) rfl ?_ -- t28
    refine WL.y (Yl.move rfl) rfl ?_ -- t29
    refine WL.y (Yl.cap un22 rfl) rfl ?_ -- t30
    refine WL.y (Yl.gtr rfl rfl) rfl ?_ -- t31
    refine WL.nil ?_
    refine WC.condD rfl (fun g31 => ?_) (fun g31 => ?_)
    · refine WC.seq ?_
      refine WC.region ?_
      refine WL.y (Yl.move rfl) rfl ?_ -- t32
      refine WL.y (Yl.move rfl) rfl ?_ -- t33
      refine WL.y (Yl.slice un22 sz33 rfl rfl ⟨_, rfl⟩ (by omega) (by omega)) rfl ?_ -- t34
      refine WL.say (t := 34) (v' := .slice ao i cap) rfl (by exact sub0) ?_
      refine WL.y (Yl.move rfl) rfl ?_ -- t35
      refine WL.y (Yl.move rfl) rfl ?_ -- t36
      refine WL.y (Yl.add rfl rfl (IntWalk.i64_in _ (by omega))) rfl ?_ -- t37
      refine WL.y (Yl.move rfl) rfl ?_ -- t38
      refine WL.y (Yl.sub rfl rfl (IntWalk.i64_in _ (by omega))) rfl ?_ -- t39
      refine WL.say (t := 39) (v' := .int .i64 ((xs.length + 1 - i : Nat) : Int)) rfl (by congr 1; omega) ?_
      obtain ⟨Z, hZ⟩ : ∃ Z, Z = (Builtin.zeroCells zc (xs.length + 1 - i)).toList := ⟨_, rfl⟩
      have hZl : Z.length = (xs.length + 1 - i) * 22 := by rw [hZ, Array.length_toList, size_zeroCells]; rfl
      refine WL.to (To.appendZN (i := i) (m := xs.length + 1 - i) (N := xs.length + 1) (zs := (vcs rcV xs).take (i * 22) ++ Z) sl22 un3 rfl rfl (by repeat (first | exact Take1.head | apply Take1.tail)) hi (by omega) (by omega) (by omega) (by omega) (by rw [hZ]; rfl) (by unfold maxLen; omega) (by omega)) rfl ?_
      rintro ⟨⟨b40, c40⟩, hc40⟩
      dsimp only at hc40 ⊢
      refine WL.y (Yl.assign rfl) rfl ?_ -- t9
      refine WL.nil ?_
      refine WC.seq ?_
      refine WC.region ?_
      refine WL.y (Yl.move rfl) rfl ?_ -- t41
      refine WL.y (Yl.move rfl) rfl ?_ -- t42
      refine WL.y (Yl.slice un22 sz33 rfl ⟨_, rfl⟩ rfl (by omega) (by omega)) rfl ?_ -- t43
      refine WL.y (Yl.move rfl) rfl ?_ -- t44
      refine WL.to (To.copyOwn (l := i) (k := 1) (m := 1) un22 sz33 rfl rfl (by repeat (first | exact Take1.head | apply Take1.tail)) (Reads.of (rdRc hx) (by repeat (first | exact Take1.head | apply Take1.tail))) (fun u hu => Rc.ones x u (List.mem_of_mem_take hu)) (by omega) (Nat.min_eq_left (by omega)) rfl) rfl ?_
      rintro ⟨⟩
      refine WL.nil ?_
      refine WC.seq ?_
      refine WC.drawTail 8 mixed (by kernel_rfl) ?_
      refine WH.y (Yl.move rfl) rfl ?_ -- t46
      refine WH.y (Yl.move rfl) rfl ?_ -- t47
      refine WH.y (Yl.move rfl) rfl ?_ -- t48
      refine WH.y (Yl.add rfl rfl (IntWalk.i64_in _ (by omega))) rfl ?_ -- t49
      refine WH.say (t := 49) (v' := .int .i64 ((i + 1 : Nat) : Int)) rfl (by rfl) ?_
      refine WH.y (Yl.slice un22 sz33 rfl ⟨_, rfl⟩ rfl (by omega) (by omega)) rfl ?_ -- t50
      refine WH.y (Yl.move rfl) rfl ?_ -- t51
      refine WH.y (Yl.move rfl) rfl ?_ -- t52
      refine WH.y (Yl.slice un22 sz33 rfl ⟨_, rfl⟩ rfl (by omega) (by omega)) rfl ?_ -- t53
      refine WH.nil ?_
      refine WP.to (To.copyOwn (l := i + 1) (k := xs.length - i) (m := xs.length - i) (news := (vcs rcV xs).drop (i * 22)) (cs' := vcs rcV (xs.take i ++ x :: xs.drop i)) un22 sz33 rfl rfl (by repeat (first | exact Take1.head | apply Take1.tail)) (Reads.of (RdOf.sub RdOf.own hi (Nat.le_refl _) (List.take_of_length_le (by rw [List.length_drop, hlen, Nat.sub_mul]; exact Nat.le_refl _))) (by repeat (first | exact Take1.head | apply Take1.tail))) (fun u hu => vtR.ones xs u (List.mem_of_mem_drop (List.mem_of_mem_take hu))) (by omega) (Nat.min_eq_left (by omega))
          (by rw [growL (n := xs.length) hlen hZl h22 hi (by decide), rc_take hG, rc_drop hG]; exact rc_cat)) rfl ?_
      rintro ⟨⟩
      refine WP.nil ?_
      refine WC.seq ?_
      refine WC.region ?_
      refine WL.y (Yl.move rfl) rfl ?_ -- t55
      refine WL.y (Yl.assign rfl) rfl ?_ -- t6
      refine WL.nil ?_
      refine WC.ret ?_
      repeat (first | (with_reducible refine peelT ?_) | (with_reducible refine peelB ?_) | (with_reducible refine peelTX ?_) | (with_reducible refine peelBX ?_) | (with_reducible refine peelBN ?_) | (with_reducible refine peelBO rfl ?_))
      exact ret1 (.inr rfl) Tryz.results73 rfl fun w' h => ⟨(some ⟨b40, 0, none⟩, c40), trivial, rfl, h.sub (by repeat (first | exact TakeL.nil | (apply TakeL.cons; · repeat (first | exact Take1.head | apply Take1.tail))))⟩
    · refine WC.skip ?_
      refine WC.seq ?_
      refine WC.region ?_
      refine WL.y (Yl.move rfl) rfl ?_ -- t56
      refine WL.y (Yl.move rfl) rfl ?_ -- t57
      refine WL.y (Yl.move rfl) rfl ?_ -- t58
      refine WL.y (Yl.add rfl rfl (IntWalk.i64_in _ (by omega))) rfl ?_ -- t59
      refine WL.y (Yl.slice un22 sz33 rfl rfl ⟨_, rfl⟩ (by omega) (by omega)) rfl ?_ -- t60
      refine WL.viewX (fun w h => h.extend (m := 1) (by repeat (first | exact Take1.head | apply Take1.tail)) (by omega)) ?_
      intro ys hys
      refine WL.say (t := 60) (v' := .slice ao (xs.length + 1) cap) rfl (by exact sub0) ?_
      refine WL.y (Yl.assign rfl) rfl ?_ -- t0
      refine WL.nil ?_
      refine WC.seq ?_
      refine WC.seq ?_
      refine WC.region ?_
      refine WL.y (Yl.move rfl) rfl ?_ -- t61
      refine WL.y (Yl.move rfl) rfl ?_ -- t62
      refine WL.y (Yl.move rfl) rfl ?_ -- t63
      refine WL.y (Yl.move rfl) rfl ?_ -- t64
      refine WL.y (Yl.add rfl rfl (IntWalk.i64_in _ (by omega))) rfl ?_ -- t65
      refine WL.y (Yl.slice un22 sz33 rfl ⟨_, rfl⟩ rfl (by omega) (by omega)) rfl ?_ -- t66
      refine WL.y (Yl.callExt (xs := [.tmp 61, .tmp 66]) rfl rfl (fun w hw => ext_overlaps (hw.overlaps un22 sz33 (by repeat (first | exact TakeL.nil | (apply TakeL.cons; · repeat (first | exact Take1.head | apply Take1.tail)))) (by omega) (by decide)))) rfl ?_
      refine WL.y (Yl.not rfl) rfl ?_ -- t68
      refine WL.nil ?_
      refine WC.condT rfl (by first | rfl | (simp; done) | (simp; omega)) ?_
      refine WC.seq ?_
      refine WC.drawTail 8 mixed (by kernel_rfl) ?_
      refine WH.y (Yl.move rfl) rfl ?_ -- t69
      refine WH.y (Yl.move rfl) rfl ?_ -- t70
      refine WH.y (Yl.move rfl) rfl ?_ -- t71
      refine WH.y (Yl.add rfl rfl (IntWalk.i64_in _ (by omega))) rfl ?_ -- t72
      refine WH.say (t := 72) (v' := .int .i64 ((i + 1 : Nat) : Int)) rfl (by rfl) ?_
      refine WH.y (Yl.slice un22 sz33 rfl ⟨_, rfl⟩ rfl (by omega) (by omega)) rfl ?_ -- t73
      refine WH.y (Yl.move rfl) rfl ?_ -- t74
      refine WH.y (Yl.move rfl) rfl ?_ -- t75
      refine WH.y (Yl.slice un22 sz33 rfl ⟨_, rfl⟩ rfl (by omega) (by omega)) rfl ?_ -- t76
      refine WH.nil ?_
      refine WP.to (To.copyOwn (l := i + 1) (k := xs.length - i) (m := xs.length + 1 - i) (news := (vcs rcV xs ++ ys).drop (i * 22)) un22 sz33 rfl rfl (by repeat (first | exact Take1.head | apply Take1.tail)) (Reads.of (RdOf.sub RdOf.own (by omega) (Nat.le_refl _) (List.take_of_length_le (by rw [List.length_drop, List.length_append, hlen, hys]; omega))) (by repeat (first | exact Take1.head | apply Take1.tail))) (fun u hu => by
          rw [List.drop_append_of_le_length (by omega), List.take_left' (by rw [List.length_drop, hlen, Nat.sub_mul])] at hu
          exact vtR.ones xs u (List.mem_of_mem_drop hu)) (by omega) ((Nat.min_eq_right (by omega)).trans (by omega)) rfl) rfl ?_
      rintro ⟨⟩
      refine WP.nil ?_
      refine WC.seq ?_
      refine WC.region ?_
      refine WL.y (Yl.move rfl) rfl ?_ -- t78
      refine WL.y (Yl.move rfl) rfl ?_ -- t79
      refine WL.y (Yl.slice un22 sz33 rfl ⟨_, rfl⟩ rfl (by omega) (by omega)) rfl ?_ -- t80
      refine WL.y (Yl.move rfl) rfl ?_ -- t81
      refine WL.to (To.copyOwn (l := i) (k := 1) (m := 1) (cs' := vcs rcV (xs.take i ++ x :: xs.drop i)) un22 sz33 rfl rfl (by repeat (first | exact Take1.head | apply Take1.tail)) (Reads.of (rdRc hx) (by repeat (first | exact Take1.head | apply Take1.tail))) (fun u hu => Rc.ones x u (List.mem_of_mem_take hu)) (by omega) (Nat.min_eq_left (by omega))
          (by rw [show (i + 1) = 1 + i from Nat.add_comm _ _] at *; rw [Nat.add_comm 1 i]; exact (shiftL (x := x.cells) (n := xs.length) hlen hys h22 hi (by decide)).trans (by rw [rc_take hG, rc_drop hG]; exact rc_cat))) rfl ?_
      rintro ⟨⟩
      refine WL.nil ?_
      refine WC.seq ?_
      refine WC.region ?_
      refine WL.y (Yl.move rfl) rfl ?_ -- t83
      refine WL.y (Yl.assign rfl) rfl ?_ -- t6
      refine WL.nil ?_
      refine WC.ret ?_
      repeat (first | (with_reducible refine peelT ?_) | (with_reducible refine peelB ?_) | (with_reducible refine peelTX ?_) | (with_reducible refine peelBX ?_) | (with_reducible refine peelBN ?_) | (with_reducible refine peelBO rfl ?_))
      exact ret1 (.inr rfl) Tryz.results73 rfl fun w' h => ⟨(ao, cap), trivial, rfl, h.sub (by repeat (first | exact TakeL.nil | (apply TakeL.cons; · repeat (first | exact Take1.head | apply Take1.tail))))⟩
set_option maxRecDepth 100000 in
theorem delR_any (ao : Option Addr) (cap : Nat) (xs : List Rc) (hG : ROk xs) (i : Nat) (hl : xs.length ≤ 1000000) (hi : i < xs.length) (w : World)
    (hw : OK w (fpL [ownR (.slice ao xs.length cap) 33 22 xs.length (vcs rcV xs)]) [ownR (.slice ao xs.length cap) 33 22 xs.length (vcs rcV xs)] w) :
    Fn Tryz.prog 50 [.slice ao xs.length cap, .int .i64 (i : Int), .int .i64 ((i + 1 : Nat) : Int)] [ownR (.slice ao xs.length cap) 33 22 xs.length (vcs rcV xs)] w (fun _ : Unit => True) (fun _ => .slice ao (xs.length - 1) cap)
      (fun _ => [ownR (.slice ao (xs.length - 1) cap) 33 22 (xs.length - 1) (vcs rcV (xs.take i ++ xs.drop (i + 1)))]) := by
  have hcap : xs.length ≤ cap := Sown.le (hw.get .head)
  have hlen := rc_len hG
  refine enterF Tryz.func50 rfl Tryz.ntmps50 rfl hw ?_
  refine WC.seq ?_
  refine WC.region ?_
  refine WL.y (Yl.assign rfl) rfl ?_ -- t6
  refine WL.nil ?_
  refine WC.seq ?_
  refine WC.region ?_
  refine WL.y (Yl.move rfl) rfl ?_ -- t8
  refine WL.y (Yl.move rfl) rfl ?_ -- t9
  refine WL.y (Yl.move rfl) rfl ?_ -- t10
  refine WL.y (Yl.move rfl) rfl ?_ -- t11
  refine WL.y (Yl.len un22 rfl) rfl ?_ -- t12
  refine WL.y (Yl.slice3L (l := i) (h := i + 1) (m := xs.length) un22 sz33 rfl rfl rfl rfl (by omega) (by omega) (by omega)) rfl ?_
  refine WL.nil ?_
  refine WC.seq ?_
  refine WC.seq ?_
  refine WC.region ?_
  refine WL.y (Yl.move rfl) rfl ?_ -- t14
  refine WL.y (Yl.move rfl) rfl ?_ -- t15
  refine WL.y (Yl.eql rfl rfl) rfl ?_ -- t16
  refine WL.nil ?_
  refine WC.condF rfl (by first | rfl | (simp; done) | (simp; omega)) ?_
  refine WC.skip ?_
  refine WC.seq ?_
  refine WC.region ?_
  refine WL.y (Yl.move rfl) rfl ?_ -- t18
  refine WL.y (Yl.len un22 rfl) rfl ?_ -- t19
  refine WL.y (Yl.assign rfl) rfl ?_ -- t7
  refine WL.nil ?_
  refine WC.seq ?_
  refine WC.drawTail 6 mixed (by kernel_rfl) ?_
  refine WH.y (Yl.move rfl) rfl ?_ -- t20
  refine WH.y (Yl.move rfl) rfl ?_ -- t21
  refine WH.y (Yl.slice un22 sz33 rfl rfl ⟨_, rfl⟩ (by omega) (by omega)) rfl ?_ -- t22
  refine WH.say (t := 22) (v' := .slice ao i cap) rfl (by exact sub0) ?_
  refine WH.y (Yl.move rfl) rfl ?_ -- t23
  refine WH.y (Yl.move rfl) rfl ?_ -- t24
  refine WH.y (Yl.slice un22 sz33 rfl ⟨_, rfl⟩ rfl (by omega) (by omega)) rfl ?_ -- t25
  refine WH.nil ?_
  refine WP.to (To.appendIn (i := i) (m := xs.length - (i + 1)) (N := xs.length - 1) (news := (vcs rcV xs).drop ((i + 1) * 22)) sl22 rfl rfl (by repeat (first | exact Take1.head | apply Take1.tail)) (Reads.of (RdOf.sub RdOf.own (by omega) (Nat.le_refl _) (List.take_of_length_le (by rw [List.length_drop, hlen, Nat.sub_mul]; exact Nat.le_refl _))) (by repeat (first | exact Take1.head | apply Take1.tail))) (fun u hu => vtR.ones xs u (List.mem_of_mem_drop hu)) (by omega) (by omega) rfl) rfl ?_
  rintro ⟨⟩
  refine WP.y (Yl.assign rfl) rfl ?_ -- t0
  refine WP.nil ?_
  refine WC.seq ?_
  refine WC.region ?_
  refine WL.y (Yl.move rfl) rfl ?_ -- t27
  refine WL.y (Yl.move rfl) rfl ?_ -- t28
  refine WL.y (Yl.len un22 rfl) rfl ?_ -- t29
  refine WL.y (Yl.move rfl) rfl ?_ -- t30
  refine WL.y (Yl.slice un22 sz33 rfl ⟨_, rfl⟩ ⟨_, rfl⟩ (by omega) (by omega)) rfl ?_ -- t31
  refine WL.eff (Eff.clear sl22 (n := xs.length) (i := xs.length - 1) (cs' := vcs rcV (xs.take i ++ xs.drop (i + 1))) (by intro u hu; exact Rc.ones Rc.zero u hu) rfl (by repeat (first | exact Take1.head | apply Take1.tail)) (by omega) (by
    have := closeL (cs := vcs rcV xs) (s := 22) (n := xs.length) (i := i) (j := i + 1) hlen (by omega) (by omega)
    rw [show i + (xs.length - (i + 1)) = xs.length - 1 by omega] at this ⊢
    rw [this, rc_take hG, rc_drop hG, vcs_app])) ?_
  refine WL.nil ?_
  refine WC.seq ?_
  refine WC.region ?_
  refine WL.y (Yl.move rfl) rfl ?_ -- t32
  refine WL.y (Yl.assign rfl) rfl ?_ -- t6
  refine WL.nil ?_
  refine WC.ret ?_
  repeat (first | (with_reducible refine peelT ?_) | (with_reducible refine peelB ?_) | (with_reducible refine peelTX ?_) | (with_reducible refine peelBX ?_) | (with_reducible refine peelBN ?_) | (with_reducible refine peelBO rfl ?_))
  exact ret1 (.inr rfl) Tryz.results50 rfl fun w' h => ⟨(), trivial, rfl, by rw [sub0] at h; exact h.sub (by repeat (first | exact TakeL.nil | (apply TakeL.cons; · repeat (first | exact Take1.head | apply Take1.tail))))⟩
theorem idxR_any (v : Value) (xs : List Rc) (hG : ROk xs) (pf : FuncId) (pc : List Value) (p : Rc → Bool) (hl : xs.length ≤ 1000000) (w : World) (hx : RdS w (fpL []) v 22 xs.length (vcs rcV xs)) (hp : PredS Tryz.prog w (fpL []) pf pc Rc.ok rcV p) (hw : OK w (fpL []) [] w) :
    Fn Tryz.prog 74 [v, .func (.func pf) #[] pc.toArray] [] w (fun _ : Unit => True) (fun _ => .int .i64 (match xs.findIdx? p with | none => -1 | some i => (i : Int))) (fun _ => []) := by
  obtain ⟨ao, cap, rfl, hcl, hml⟩ := hx.rd.form
  refine enterF Tryz.func74 rfl Tryz.ntmps74 rfl hw ?_
  refine WC.seq ?_
  refine WC.region ?_
  refine WL.y (Yl.assign rfl) rfl ?_ -- t4
  refine WL.nil ?_
  refine WC.seq ?_
  refine WC.seq ?_
  refine WC.region ?_
  refine WL.y (Yl.move rfl) rfl ?_ -- t6
  refine WL.y (Yl.len un22 rfl) rfl ?_ -- t7
  refine WL.y (Yl.move rfl) rfl ?_ -- t8
  refine WL.nil ?_
  refine WC.block ?_
  refine WC.loop (α := Nat) (fun j => [(0, .slice ao xs.length cap), (1, .func (.func pf) #[] pc.toArray), (7, .int .i64 (xs.length : Int)), (8, .int .i64 (j : Int))]) (fun _ => []) (fun j => j ≤ xs.length ∧ ∀ (k : Nat) x, k < j → xs[k]? = some x → p x = false) (fun j => xs.length - j) 0 ⟨Nat.zero_le _, fun k x h => by omega⟩ ⟨(by repeat (first | exact Sub.nil | refine Sub.cons rfl ?_)), _, (by repeat (first | exact TakeL.nil | (apply TakeL.cons; · repeat (first | exact Take1.head | apply Take1.tail))))⟩ ?_
  rintro j ⟨hj, hno⟩
  refine WC.seq ?_
  refine WC.region ?_
  refine WL.y (Yl.lss rfl rfl) rfl ?_ -- t9
  refine WL.nil ?_
  refine WC.seq ?_
  refine WC.condD rfl (fun g9 => ?_) (fun g9 => ?_)
  · refine WC.skip ?_
    refine WC.seq ?_
    refine WC.block ?_
    refine WC.seq ?_
    refine WC.region ?_
    refine WL.y (Yl.move rfl) rfl ?_ -- t10
    refine WL.y (Yl.assign rfl) rfl ?_ -- t5
    refine WL.nil ?_
    refine WC.seq ?_
    refine WC.region ?_
    obtain ⟨x, hx0⟩ : ∃ x, xs[j]? = some x := ⟨_, List.getElem?_eq_getElem (by omega)⟩
    refine WL.y (Yl.move rfl) rfl ?_ -- t11
    refine WL.y (Yl.move rfl) rfl ?_ -- t12
    refine WL.y (Yl.move rfl) rfl ?_ -- t13
    refine WL.y (Yl.index un22 sz33 rfl rfl (Reads.s hx) rfl (by omega)) rfl ?_ -- t14
    refine WL.y (Yl.loadV (j := j) (u := x) vtR hG rfl (Reads.s hx) rfl hx0) rfl ?_
    refine WL.callC (f := .tmp 11) (xs := [.tmp 15]) (cap := pc) rfl rfl hp.en (by repeat (first | exact TakeL.nil | (apply TakeL.cons; · repeat (first | exact Take1.head | apply Take1.tail)))) (fun w hw => hp.now hw (hG.get hx0)) rfl ?_ -- t16
    rintro ⟨⟩ -
    refine WL.nil ?_
    refine WC.cond rfl (fun g16 => ?_) (fun g16 => ?_)
    · refine WC.seq ?_
      refine WC.region ?_
      refine WL.y (Yl.move rfl) rfl ?_ -- t17
      refine WL.y (Yl.assign rfl) rfl ?_ -- t4
      refine WL.nil ?_
      refine WC.ret ?_
      repeat (first | (with_reducible refine peelT ?_) | (with_reducible refine peelB ?_) | (with_reducible refine peelTX ?_) | (with_reducible refine peelBX ?_) | (with_reducible refine peelBN ?_) | (with_reducible refine peelBO rfl ?_))
      obtain ⟨hjl, hje⟩ := List.getElem?_eq_some_iff.1 hx0
      have e : xs.findIdx? p = some j := List.findIdx?_eq_some_iff_getElem.2 ⟨hjl, by rw [hje]; simpa using g16, fun k hk => by
        have := hno k _ hk (List.getElem?_eq_getElem (by omega))
        simp [this]⟩
      rw [e]
      exact ret1 (.inr rfl) Tryz.results74 rfl fun w' h => ⟨(), trivial, rfl, h.sub (by repeat (first | exact TakeL.nil | (apply TakeL.cons; · repeat (first | exact Take1.head | apply Take1.tail))))⟩
    · refine WC.skip ?_
      refine WC.region ?_
      refine WL.y (Yl.add rfl rfl (IntWalk.i64_in _ (by omega))) rfl ?_ -- t18
      refine WL.y (Yl.move rfl) rfl ?_ -- t8
      refine WL.nil ?_
      exact ⟨rfl, j + 1, ⟨by omega, fun k y hk hy => by
        by_cases e : k = j
        · subst e
          rw [hx0] at hy
          cases hy
          simpa using g16
        · exact hno k y (by omega) hy⟩, by omega, (by repeat (first | exact Sub.nil | refine Sub.cons rfl ?_)), _, (by repeat (first | exact TakeL.nil | (apply TakeL.cons; · repeat (first | exact Take1.head | apply Take1.tail))))⟩
  · refine WC.exit ?_
    refine WC.seq ?_
    refine WC.region ?_
    refine WL.y (Yl.assign rfl) rfl ?_ -- t4
    refine WL.nil ?_
    refine WC.ret ?_
    repeat (first | (with_reducible refine peelT ?_) | (with_reducible refine peelB ?_) | (with_reducible refine peelTX ?_) | (with_reducible refine peelBX ?_) | (with_reducible refine peelBN ?_) | (with_reducible refine peelBO rfl ?_))
    have e : xs.findIdx? p = none := List.findIdx?_eq_none_iff.2 fun x hx => by
      obtain ⟨k, hk⟩ := List.mem_iff_getElem?.1 hx
      exact hno k x (by have := (List.getElem?_eq_some_iff.1 hk).1; omega) hk
    rw [e]
    exact ret1 (.inr rfl) Tryz.results74 rfl fun w' h => ⟨(), trivial, rfl, h.sub (by repeat (first | exact TakeL.nil | (apply TakeL.cons; · repeat (first | exact Take1.head | apply Take1.tail))))⟩
end Go.Proofs.YtmcdbjbkkejbbaaGreat
