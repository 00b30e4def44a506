/- The log as bytes, asked for; the reference's: the walks. -/
import Derived.Test.YtpjgmiemamcdhaaLogK
namespace Go.Proofs.Ytpjgmiemamcdhaa
open Go Go.RowKit

def alA (b1 bb : Nat) (most : Int) (v : Value) (xs : List Rc) : List Res := [roR (blkR b1 84 [.pointer (some ⟨bb, 0, none⟩)]), roR (blkR bb 90 [v, .int .i64 most]), rdR v 22 xs.length (vcs rcV xs)]
theorem all1R_iter (b1 bb : Nat) (most : Int) (v : Value) (xs : List Rc) (hG : ROk xs) (hl : xs.length ≤ 1000000) (w : World) (hA : OK w (fpL (alA b1 bb most v xs)) (alA b1 bb most v xs) w) :
    Iter Try.prog 63 ([.pointer (some ⟨b1, 0, none⟩)] : List Value).toArray (fpL (alA b1 bb most v xs)).rd (ysR xs) w := by
  unfold alA at hA ⊢
  obtain ⟨al, cl, rfl, hcl, hml⟩ := (hA.get (.tail (.tail .head)) : Rd _ _ _ _ _).form
  have hwr : ∀ r ∈ [roR (blkR b1 84 [.pointer (some ⟨bb, 0, none⟩)]), roR (blkR bb 90 [.slice al xs.length cl, .int .i64 most]), rdR (.slice al xs.length cl) 22 xs.length (vcs rcV xs)], ∀ k, ¬ r.wr k := by
    intro r hr k hk
    simp at hr
    rcases hr with rfl | rfl | rfl <;> exact hk
  have hln := ysR_len xs
  refine iter_of Try.func63 rfl Try.ntmps63 rfl hA hwr ?_
  intro l W g gx T0 hy
  refine WC.seq ?_
  refine WC.seq ?_
  refine WC.region ?_
  refine WL.y (Yl.loadRo on84 rfl (by repeat (first | exact Take1.head | apply Take1.tail)) (by rfl)) rfl ?_
  refine WL.y (Yl.nilEq un84 rfl rfl) rfl ?_ -- t6
  refine WL.know (t := 6) (b' := false) rfl (by first | rfl | (simp; done) | (simp; omega)) ?_
  refine WL.nil ?_
  refine WC.condF rfl (by first | rfl | (simp; done) | (simp; omega)) ?_
  refine WC.skip ?_
  refine WC.seq ?_
  refine WC.region ?_
  refine WL.y (Yl.loadRo on84 rfl (by repeat (first | exact Take1.head | apply Take1.tail)) (by rfl)) rfl ?_
  refine WL.y (Yl.nilCheck rfl) rfl ?_ -- t8
  refine WL.y (Yl.field fo90_0 rfl) rfl ?_ -- t9
  refine WL.y (Yl.loadRo on39 rfl (by repeat (first | exact Take1.head | apply Take1.tail)) (by rfl)) rfl ?_
  refine WL.y (Yl.len un39 rfl) rfl ?_ -- t11
  refine WL.y (Yl.move rfl) rfl ?_ -- t12
  refine WL.nil ?_
  refine WC.block ?_
  refine WC.loop (α := Nat × (Nat → Prop)) (fun x => [(0, .func (.yield l) #[] #[]), (10, .slice al xs.length cl), (11, .int .i64 (xs.length : Int)), (12, .int .i64 (x.1 : Int))]) (fun x => [gstR g x.1 x.2, rdR (.slice al xs.length cl) 22 xs.length (vcs rcV xs)]) (fun x => x.1 ≤ xs.length) (fun x => xs.length - x.1) (0, T0) (Nat.zero_le _) ⟨(by repeat (first | exact Sub.nil | refine Sub.cons rfl ?_)), _, (by repeat (first | exact TakeL.nil | (apply TakeL.cons; · repeat (first | exact Take1.head | apply Take1.tail))))⟩ ?_
  rintro ⟨i, T⟩ hi
  dsimp only at hi ⊢
  refine WC.seq ?_
  refine WC.region ?_
  refine WL.y (Yl.lss rfl rfl) rfl ?_ -- t13
  refine WL.nil ?_
  refine WC.seq ?_
  refine WC.condD rfl (fun g13 => ?_) (fun g13 => ?_)
  · refine WC.skip ?_
    refine WC.seq ?_
    refine WC.block ?_
    refine WC.seq ?_
    refine WC.region ?_
    obtain ⟨x, hx0⟩ : ∃ x, xs[i]? = some x := ⟨_, List.getElem?_eq_getElem (by omega)⟩
    have hxo := hG.get hx0
    have h22 := Rc.cells_len hxo.len
    refine WL.y (Yl.index un39 sz46 rfl rfl (Reads.of RdOf.rd' (by repeat (first | exact Take1.head | apply Take1.tail))) rfl (by omega)) rfl ?_ -- t14
    refine WL.y (Yl.loadV (j := i) (u := x) vtR hG rfl (Reads.of RdOf.rd' (by repeat (first | exact Take1.head | apply Take1.tail))) rfl hx0) rfl ?_
    refine WL.to (To.alloc (cs := Rc.zero.cells) zr46 rfl) rfl ?_ -- t4
    intro b4
    refine WL.sto (Sto.agg sz46 rfl rfl (by repeat (first | exact Take1.head | apply Take1.tail)) (Rc.ones _) h22 (by rfl) (Rc.all (r := Rc.zero) rfl x.cells h22)) (fun _ h => nomatch h) ?_ -- st 1
    refine WL.nil ?_
    refine WC.seq ?_
    refine WC.region ?_
    refine WL.y (Yl.move rfl) rfl ?_ -- t16
    refine WL.y (Yl.loadN ag46 rfl (by repeat (first | exact Take1.head | apply Take1.tail)) (leB (by rw [h22]; omega)) (Rc.call hxo.len)) rfl ?_ -- t17
    refine WL.yield (xs := [.tmp 17]) (i := i) hy rfl rfl (ysR_get hx0) (by repeat (first | exact Take1.head | apply Take1.tail)) rfl ?_
    intro b18 T'
    refine WL.y (Yl.not rfl) rfl ?_ -- t19
    refine WL.nil ?_
    refine WC.cond rfl (fun g19 => ?_) (fun g19 => ?_)
    · refine WC.ret ?_
      repeat (first | (with_reducible refine peelT ?_) | (with_reducible refine peelB ?_) | (with_reducible refine peelTX ?_) | (with_reducible refine peelBX ?_) | (with_reducible refine peelBN ?_) | (with_reducible refine peelBO rfl ?_))
      have hb : b18 = false := by simpa using g19
      subst hb
      simp only [Bool.false_eq_true, if_false]
      exact itStop (i := i) (.inr rfl) Try.results63 (by repeat (first | exact Take1.head | apply Take1.tail)) (by rw [hln]; omega)
    · refine WC.skip ?_
      refine WC.region ?_
      refine WL.y (Yl.add rfl rfl (IntWalk.i64_in _ (by omega))) rfl ?_ -- t20
      refine WL.y (Yl.move rfl) rfl ?_ -- t12
      refine WL.nil ?_
      have hb : b18 = true := by simpa using g19
      subst hb
      simp only [if_true]
      exact ⟨rfl, (i + 1, T'), by dsimp only; omega, by dsimp only; omega, (by repeat (first | exact Sub.nil | refine Sub.cons rfl ?_)), _, (by repeat (first | exact TakeL.nil | (apply TakeL.cons; · repeat (first | exact Take1.head | apply Take1.tail))))⟩
  · refine WC.exit ?_
    repeat (first | (with_reducible refine peelT ?_) | (with_reducible refine peelB ?_) | (with_reducible refine peelTX ?_) | (with_reducible refine peelBX ?_) | (with_reducible refine peelBN ?_) | (with_reducible refine peelBO rfl ?_))
    have hx : i = (ysR xs).length := by rw [hln]; omega
    rw [← hx]
    exact itEnd (.inl rfl) Try.results63 (by repeat (first | exact Take1.head | apply Take1.tail))

theorem allR_any (bb : Nat) (most : Int) (v : Value) (xs : List Rc) (hG : ROk xs) (hl : xs.length ≤ 1000000) (w : World) (hw : OK w (fpL [roR (blkR bb 90 [v, .int .i64 most]), rdR v 22 xs.length (vcs rcV xs)]) [roR (blkR bb 90 [v, .int .i64 most]), rdR v 22 xs.length (vcs rcV xs)] w) :
    Fn Try.prog 48 [.pointer (some ⟨bb, 0, none⟩)] [roR (blkR bb 90 [v, .int .i64 most]), rdR v 22 xs.length (vcs rcV xs)] w (fun _ : Nat × (Nat → Prop) => True) (fun y => .func (.func 63) #[] #[.pointer (some ⟨y.1, 0, none⟩)]) (fun y => [itR Try.prog 63 [.pointer (some ⟨y.1, 0, none⟩)] y.2 (ysR xs)]) := by
  refine enterF Try.func48 rfl Try.ntmps48 rfl hw ?_
  refine WC.seq ?_
  refine WC.region ?_
  refine WL.to (To.box (cs := [.pointer (some ⟨bb, 0, none⟩)]) rfl rfl) rfl ?_ -- t1
  intro b1
  refine WL.y (Yl.assign rfl) rfl ?_ -- t2
  refine WL.nil ?_
  refine WC.seq ?_
  refine WC.region ?_
  refine WL.y (Yl.makeFunc (xs := []) (ys := [.tmp 1]) rfl rfl) rfl ?_ -- t3
  refine WL.y (Yl.assign rfl) rfl ?_ -- t2
  refine WL.nil ?_
  refine WC.ret ?_
  repeat (first | (with_reducible refine peelT ?_) | (with_reducible refine peelB ?_) | (with_reducible refine peelTX ?_) | (with_reducible refine peelBX ?_) | (with_reducible refine peelBN ?_) | (with_reducible refine peelBO rfl ?_))
  refine ret1 (.inr rfl) Try.results48 rfl fun w' hh => ⟨(b1, (fpL (alA b1 bb most v xs)).rd), trivial, rfl, ?_⟩
  have hA : OK w _ ([blkR b1 84 [.pointer (some ⟨bb, 0, none⟩)], roR (blkR bb 90 [v, .int .i64 most]), rdR v 22 xs.length (vcs rcV xs)] ++ []) w' := hh.sub (by repeat (first | exact TakeL.nil | (apply TakeL.cons; · repeat (first | exact Take1.head | apply Take1.tail))))
  exact hA.toIter (all1R_iter b1 bb most v xs hG hl w' hA.freeze.here) (fun k hk => rd_freeze (A := [blkR b1 84 [.pointer (some ⟨bb, 0, none⟩)], roR (blkR bb 90 [v, .int .i64 most]), rdR v 22 xs.length (vcs rcV xs)]) hk)

def bytesF (xs : List Rc) (i : Nat) : List Int := allB (xs.take i)
theorem bytesF_succ {xs : List Rc} {i : Nat} {x : Rc} (h : xs[i]? = some x) : bytesF xs (i + 1) = bytesF xs i ++ recB x := by
  unfold bytesF
  rw [List.take_add_one, h]
  exact allB_snoc _ _
theorem bytesF_len {xs : List Rc} (hG : ROk xs) (i : Nat) : (bytesF xs i).length = 43 * (xs.take i).length := allB_len (fun r hr => hG r (List.mem_of_mem_take hr))

theorem bytesL_any (bl bb : Nat) (ao : Option Addr) (cap : Nat) (xs : List Rc) (hG : ROk xs) (hM : ∀ x ∈ xs, mayB x = true) (hl : xs.length ≤ 1000000) (w : World) (hw : OK w (fpL (logRd bl bb ao cap xs)) (logRd bl bb ao cap xs) w) :
    Fn Try.prog 25 [.pointer (some ⟨bl, 0, none⟩)] (logRd bl bb ao cap xs) w (fun _ : Option Addr × Nat => True) (fun y => .slice y.1 (allB xs).length y.2) (fun y => [ownR (.slice y.1 (allB xs).length y.2) 5 1 (allB xs).length (ints .u8 (allB xs))]) := by
  unfold logRd at hw ⊢
  refine enterM Try.func25 rfl Try.ntmps25 rfl hw ?_
  refine WC.seq ?_
  refine WC.region ?_
  refine WL.y (Yl.assign rfl) rfl ?_ -- t2
  refine WL.nil ?_
  refine WC.seq ?_
  refine WC.seq ?_
  refine WC.region ?_
  refine WL.y (Yl.move rfl) rfl ?_ -- t7
  refine WL.y (Yl.nilEq un41 rfl rfl) rfl ?_ -- t8
  refine WL.know (t := 8) (b' := false) rfl (by first | rfl | (simp; done) | (simp; omega)) ?_
  refine WL.nil ?_
  refine WC.condF rfl (by first | rfl | (simp; done) | (simp; omega)) ?_
  refine WC.skip ?_
  refine WC.seq ?_
  refine WC.region ?_
  refine WL.to (To.alloc (cs := [.slice none 0 0]) zr56 rfl) rfl ?_ -- t3
  intro b3
  refine WL.nil ?_
  refine WC.seq ?_
  refine WC.seq ?_
  refine WC.region ?_
  refine WL.y (Yl.move rfl) rfl ?_ -- t9
  refine WL.y (Yl.nilCheck rfl) rfl ?_ -- t10
  refine WL.y (Yl.field fo87_0 rfl) rfl ?_
  refine WL.y (Yl.loadRo on84 rfl (by repeat (first | exact Take1.head | apply Take1.tail)) (by rfl)) rfl ?_
  refine WL.view (fun w h => h.addNil 5 1) ?_
  refine WL.callC (xs := [.tmp 12]) (cap := []) rfl rfl en48 (by repeat (first | exact TakeL.nil | (apply TakeL.cons; · repeat (first | exact Take1.head | apply Take1.tail)))) (fun w hw => allR_any bb 4096 (.slice ao xs.length cap) xs hG hl w hw.left.here) rfl ?_ -- t13 (*hailer/log.Bounded[hailer/api.Record]).All
  rintro ⟨bn, own⟩ -
  refine WL.nil ?_
  refine WC.block ?_
  refine WC.range (α := Option Addr × Nat) (xs := ysR xs) (fun i y => [blkR b3 56 [.slice y.1 (bytesF xs i).length y.2], ownR (.slice y.1 (bytesF xs i).length y.2) 5 1 (bytesF xs i).length (ints .u8 (bytesF xs i))]) (fun _ _ => True) (none, 0) rfl en63 ysR_size rfl (by repeat (first | exact Take1.head | apply Take1.tail)) trivial (by repeat (first | exact TakeL.nil | (apply TakeL.cons; · repeat (first | exact Take1.head | apply Take1.tail)))) ?_ ?_
  · intro l i x y hx _ W
    obtain ⟨yo, yc⟩ := y
    obtain ⟨x, hx0, rfl⟩ := ysR_at hx
    have hlt := (List.getElem?_eq_some_iff.1 hx0).1
    have hxo := hG.get hx0
    have h22 := Rc.cells_len hxo.len
    have hbl := bytesF_len hG i
    have hnext := bytesF_succ hx0
    have hrl := recB_len hxo.len
    have htl : (xs.take i).length ≤ 1000000 := by rw [List.length_take]; omega
    have hnl : (bytesF xs (i + 1)).length = (bytesF xs i).length + 43 := by rw [hnext, List.length_append, hrl]
    show WC _ _ _ ((14, .agg x.cells.toArray) :: _) _ _
    refine WC.region ?_
    refine WL.to (To.alloc (cs := Rc.zero.cells) zr46 rfl) rfl ?_ -- t4
    intro b4
    refine WL.sto (Sto.agg sz46 rfl rfl (by repeat (first | exact Take1.head | apply Take1.tail)) (Rc.ones _) h22 (by rfl) (Rc.all (r := Rc.zero) rfl x.cells h22)) (fun _ h => nomatch h) ?_ -- st 1
    refine WL.nil ?_
    repeat (first | (with_reducible refine peelT ?_) | (with_reducible refine peelB ?_) | (with_reducible refine peelTX ?_) | (with_reducible refine peelBX ?_) | (with_reducible refine peelBN ?_) | (with_reducible refine peelBO rfl ?_))
    refine fun W2 => ?_
    refine WC.block ?_
    refine WC.seq ?_
    refine WC.region ?_
    refine WL.y (Yl.loadN ag46 rfl (by repeat (first | exact Take1.head | apply Take1.tail)) (leB (by rw [h22]; omega)) (Rc.call hxo.len)) rfl ?_ -- t16
    refine WL.callC (xs := [.tmp 16]) (cap := []) rfl rfl en49 (by repeat (first | exact TakeL.nil | (apply TakeL.cons; · repeat (first | exact Take1.head | apply Take1.tail)))) (fun w hw => rput_ok x hxo (hM x (List.mem_of_getElem? hx0)) w hw.left.here) rfl ?_ -- t17 hailer/rec.Put
    rintro ⟨a17, c17⟩ hc17
    dsimp only at hc17 ⊢
    refine WL.y (Yl.move rfl) rfl ?_ -- t15
    refine WL.y (Yl.extract rfl rfl) rfl ?_ -- t18
    refine WL.y (Yl.extract rfl rfl) rfl ?_ -- t19
    refine WL.y (Yl.assign rfl) rfl ?_ -- t5
    refine WL.y (Yl.assign rfl) rfl ?_ -- t6
    refine WL.nil ?_
    refine WC.region ?_
    refine WL.y (Yl.load on56 rfl (by repeat (first | exact Take1.head | apply Take1.tail)) (by rfl)) rfl ?_ -- t20
    refine WL.y (Yl.move rfl) rfl ?_ -- t21
    refine WL.to (To.append sl56 rfl rfl (by repeat (first | exact Take1.head | apply Take1.tail)) (Reads.of (RdOf.own (v := .slice a17 43 c17)) (by repeat (first | exact Take1.head | apply Take1.tail))) (ints_one _ _) (show _ = (bytesF xs (i + 1)).length by rw [hnl]) (show _ = ints .u8 (bytesF xs (i + 1)) by rw [hnext]; simp [ints]) (by unfold maxLen; omega) (by omega)) rfl ?_ -- t22
    rintro ⟨⟨ao22, c22⟩, hc22⟩
    dsimp only at hc22 ⊢
    refine WL.sto (Sto.one sz56 rfl rfl (by repeat (first | exact Take1.head | apply Take1.tail)) rfl (by rfl) (by rfl)) (fun _ h => nomatch h) ?_ -- st 2
    refine WL.nil ?_
    repeat (first | (with_reducible refine peelT ?_) | (with_reducible refine peelB ?_) | (with_reducible refine peelTX ?_) | (with_reducible refine peelBX ?_) | (with_reducible refine peelBN ?_) | (with_reducible refine peelBO rfl ?_))
    exact ⟨[blkR b3 56 [.slice ao22 (bytesF xs (i + 1)).length c22], ownR (.slice ao22 (bytesF xs (i + 1)).length c22) 5 1 (bytesF xs (i + 1)).length (ints .u8 (bytesF xs (i + 1)))], _, (by repeat (first | exact TakeL.nil | (apply TakeL.cons; · repeat (first | exact Take1.head | apply Take1.tail)))), (ao22, c22), trivial, rfl⟩
  · rintro ⟨yo, yc⟩ D -
    rw [ysR_len, show bytesF xs xs.length = allB xs by unfold bytesF; rw [List.take_length]]
    dsimp only [List.cons_append, List.nil_append]
    refine WC.seq ?_
    refine WC.region ?_
    refine WL.y (Yl.load on56 rfl (by repeat (first | exact Take1.head | apply Take1.tail)) (by rfl)) rfl ?_ -- t23
    refine WL.y (Yl.assign rfl) rfl ?_ -- t2
    refine WL.nil ?_
    refine WC.ret ?_
    repeat (first | (with_reducible refine peelT ?_) | (with_reducible refine peelB ?_) | (with_reducible refine peelTX ?_) | (with_reducible refine peelBX ?_) | (with_reducible refine peelBN ?_) | (with_reducible refine peelBO rfl ?_))
    refine retM.of (.cons (by repeat (first | exact Take1.head | apply Take1.tail)) .nil) ?_
    exact ret1 (.inr rfl) Try.results25 rfl fun w' h => ⟨(yo, yc), trivial, rfl, h.sub (by repeat (first | exact TakeL.nil | (apply TakeL.cons; · repeat (first | exact Take1.head | apply Take1.tail))))⟩

theorem rbytesL_any (v : Value) (xs : List Rc) (hG : ROk xs) (hl : xs.length ≤ 1000000) (w : World) (hx : RdS w (fpL []) v 22 xs.length (vcs rcV xs)) (hw : OK w (fpL []) [] w) :
    Fn Try.prog 26 [v] [] w (fun _ : Option Addr × Nat => True) (fun y => .slice y.1 (allB xs).length y.2) (fun y => [ownR (.slice y.1 (allB xs).length y.2) 5 1 (allB xs).length (ints .u8 (allB xs))]) := by
  obtain ⟨al, cl, rfl, hcl, hml⟩ := hx.rd.form
  refine enterF Try.func26 rfl Try.ntmps26 rfl hw ?_
  refine WC.seq ?_
  refine WC.region ?_
  refine WL.y (Yl.assign rfl) rfl ?_ -- t2
  refine WL.nil ?_
  refine WC.seq ?_
  refine WC.region ?_
  refine WL.y (Yl.assign rfl) rfl ?_ -- t3
  refine WL.nil ?_
  refine WC.seq ?_
  refine WC.seq ?_
  refine WC.region ?_
  refine WL.y (Yl.assign rfl) rfl ?_ -- t4
  refine WL.nil ?_
  refine WC.block ?_
  refine WC.view (fun w h => h.addNil 5 1) ?_
  refine WC.loop (α := Nat × (Option Addr × Nat)) (fun p => [(0, .slice al xs.length cl), (3, .slice p.2.1 (bytesF xs p.1).length p.2.2), (4, .int .i64 (p.1 : Int))]) (fun p => [ownR (.slice p.2.1 (bytesF xs p.1).length p.2.2) 5 1 (bytesF xs p.1).length (ints .u8 (bytesF xs p.1))]) (fun p => p.1 ≤ xs.length) (fun p => xs.length - p.1) (0, none, 0) (Nat.zero_le _) ⟨(by repeat (first | exact Sub.nil | refine Sub.cons rfl ?_)), _, (by repeat (first | exact TakeL.nil | (apply TakeL.cons; · repeat (first | exact Take1.head | apply Take1.tail))))⟩ ?_
  rintro ⟨i, ao, ca⟩ hi
  dsimp only at hi ⊢
  refine WC.seq ?_
  refine WC.seq ?_
  refine WC.region ?_
  refine WL.y (Yl.move rfl) rfl ?_ -- t5
  refine WL.y (Yl.move rfl) rfl ?_ -- t6
  refine WL.y (Yl.len un39 rfl) rfl ?_ -- t7
  refine WL.y (Yl.lss rfl rfl) rfl ?_ -- t8
  refine WL.nil ?_
  refine WC.condD rfl (fun g8 => ?_) (fun g8 => ?_)
  · refine WC.skip ?_
    refine WC.seq ?_
    refine WC.block ?_
    refine WC.region ?_
    refine WL.y (Yl.move rfl) rfl ?_ -- t11
    refine WL.y (Yl.move rfl) rfl ?_ -- t12
    refine WL.y (Yl.move rfl) rfl ?_ -- t13
    obtain ⟨x, hx0⟩ : ∃ x, xs[i]? = some x := ⟨_, List.getElem?_eq_getElem (by omega)⟩
    have hxo := hG.get hx0
    have hbl := bytesF_len hG i
    have hnext := bytesF_succ hx0
    have hrl := recB_len hxo.len
    have htl : (xs.take i).length ≤ 1000000 := by rw [List.length_take]; omega
    have hnl : (bytesF xs (i + 1)).length = (bytesF xs i).length + 43 := by rw [hnext, List.length_append, hrl]
    refine WL.y (Yl.index un39 sz46 rfl rfl (Reads.s hx) rfl (by omega)) rfl ?_ -- t14
    refine WL.y (Yl.loadV (j := i) (u := x) vtR hG rfl (Reads.s hx) rfl hx0) rfl ?_
    refine WL.callC (xs := [.tmp 15]) (cap := []) rfl rfl en50 (by repeat (first | exact TakeL.nil | (apply TakeL.cons; · repeat (first | exact Take1.head | apply Take1.tail)))) (fun w hw => rbytes_any x hxo w hw.left.here) rfl ?_ -- t16 hailer/hailerref11.Bytes
    rintro ⟨a16, c16⟩ -
    dsimp only
    refine WL.to (To.append sl56 rfl rfl (by repeat (first | exact Take1.head | apply Take1.tail)) (Reads.of (RdOf.own (v := .slice a16 43 c16)) (by repeat (first | exact Take1.head | apply Take1.tail))) (ints_one _ _) (show _ = (bytesF xs (i + 1)).length by rw [hnl]) (show _ = ints .u8 (bytesF xs (i + 1)) by rw [hnext]; simp [ints]) (by unfold maxLen; omega) (by omega)) rfl ?_ -- t17
    rintro ⟨⟨ao17, c17⟩, hc17⟩
    dsimp only at hc17 ⊢
    refine WL.y (Yl.assign rfl) rfl ?_ -- t3
    refine WL.nil ?_
    refine WC.region ?_
    refine WL.y (Yl.move rfl) rfl ?_ -- t9
    refine WL.y (Yl.add rfl rfl (IntWalk.i64_in _ (by omega))) rfl ?_ -- t10
    refine WL.y (Yl.assign rfl) rfl ?_ -- t4
    refine WL.nil ?_
    exact ⟨rfl, (i + 1, ao17, c17), by dsimp only; omega, by dsimp only; omega, (by repeat (first | exact Sub.nil | refine Sub.cons rfl ?_)), _, (by repeat (first | exact TakeL.nil | (apply TakeL.cons; · repeat (first | exact Take1.head | apply Take1.tail))))⟩
  · refine WC.exit ?_
    refine WC.seq ?_
    refine WC.region ?_
    refine WL.y (Yl.move rfl) rfl ?_ -- t18
    refine WL.y (Yl.assign rfl) rfl ?_ -- t2
    refine WL.nil ?_
    refine WC.ret ?_
    repeat (first | (with_reducible refine peelT ?_) | (with_reducible refine peelB ?_) | (with_reducible refine peelTX ?_) | (with_reducible refine peelBX ?_) | (with_reducible refine peelBN ?_) | (with_reducible refine peelBO rfl ?_))
    have hil : i = xs.length := by omega
    subst hil
    rw [show allB xs = bytesF xs xs.length by unfold bytesF; rw [List.take_length]]
    exact ret1 (.inr rfl) Try.results26 rfl fun w' h => ⟨(ao, ca), trivial, rfl, h.sub (by repeat (first | exact TakeL.nil | (apply TakeL.cons; · repeat (first | exact Take1.head | apply Take1.tail))))⟩
end Go.Proofs.Ytpjgmiemamcdhaa
