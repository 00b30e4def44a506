/- Logs and bounded lists that are none: the walks. -/
import Derived.Test.YtpjgmiemamcdhaaLogW
namespace Go.Proofs.Ytpjgmiemamcdhaa
open Go Go.RowKit

theorem append_nil (r : Rc) (w : World) (hw : OK w (fpL []) [] w) :
    Fn Try.prog 19 [.pointer none, .agg r.cells.toArray] [] w (fun _ : Unit => True) (fun _ => .tuple #[.bool false, .int .i64 1]) (fun _ => []) := by
  refine enterF Try.func19 rfl Try.ntmps19 rfl hw ?_
  refine WC.seq ?_
  refine WC.region ?_
  refine WL.to (To.box (cs := r.cells) rfl rfl) rfl ?_ -- t3
  intro b3
  refine WL.y (Yl.assign rfl) rfl ?_ -- t4
  refine WL.y (Yl.assign rfl) rfl ?_ -- t5
  refine WL.nil ?_
  refine WC.seq ?_
  refine WC.block ?_
  refine WC.seq ?_
  refine WC.region ?_
  refine WL.y (Yl.move rfl) rfl ?_ -- t7
  refine WL.y (Yl.nilEq un41 rfl rfl) rfl ?_ -- t8
  refine WL.know (t := 8) (b' := true) rfl (by first | rfl | (simp; done) | (simp; omega)) ?_
  refine WL.y (Yl.assign rfl) rfl ?_ -- t6
  refine WL.nil ?_
  refine WC.condT rfl (by first | rfl | (simp; done) | (simp; omega)) ?_
  refine WC.seq ?_
  refine WC.region ?_
  refine WL.y (Yl.assign rfl) rfl ?_ -- t4
  refine WL.y (Yl.assign rfl) rfl ?_ -- t5
  refine WL.nil ?_
  refine WC.ret ?_
  repeat (first | (with_reducible refine peelT ?_) | (with_reducible refine peelB ?_) | (with_reducible refine peelTX ?_) | (with_reducible refine peelBX ?_) | (with_reducible refine peelBN ?_) | (with_reducible refine peelBO rfl ?_))
  exact ret2 (.inr rfl) Try.results19 rfl rfl fun w' h => ⟨(), trivial, rfl, h.sub (by repeat (first | exact TakeL.nil | (apply TakeL.cons; · repeat (first | exact Take1.head | apply Take1.tail))))⟩
theorem nw1_nil (b1 : Nat) (w : World) (hA : OK w (fpL [roR (blkR b1 41 [.pointer none])]) [roR (blkR b1 41 [.pointer none])] w) :
    Iter Try.prog 51 ([.pointer (some ⟨b1, 0, none⟩)] : List Value).toArray (fpL [roR (blkR b1 41 [.pointer none])]).rd [] w := by
  refine iter_of Try.func51 rfl Try.ntmps51 rfl hA (fun r hr k hk => by rw [List.mem_singleton.1 hr] at hk; exact hk) ?_
  intro l W g gx T0 hy
  refine WC.seq ?_
  refine WC.region ?_
  refine WL.to (To.box (cs := [.func (.yield l) #[] #[]]) rfl rfl) rfl ?_ -- t2
  intro b2
  refine WL.nil ?_
  refine WC.seq ?_
  refine WC.seq ?_
  refine WC.region ?_
  refine WL.y (Yl.loadRo on41 rfl (by repeat (first | exact Take1.head | apply Take1.tail)) (by rfl)) rfl ?_
  refine WL.y (Yl.nilEq un41 rfl rfl) rfl ?_ -- t6
  refine WL.know (t := 6) (b' := true) rfl (by first | rfl | (simp; done) | (simp; omega)) ?_
  refine WL.nil ?_
  refine WC.condT rfl (by first | rfl | (simp; done) | (simp; omega)) ?_
  refine WC.ret ?_
  repeat (first | (with_reducible refine peelT ?_) | (with_reducible refine peelB ?_) | (with_reducible refine peelTX ?_) | (with_reducible refine peelBX ?_) | (with_reducible refine peelBN ?_) | (with_reducible refine peelBO rfl ?_))
  exact itEnd (.inr rfl) Try.results51 (by repeat (first | exact Take1.head | apply Take1.tail))
theorem nw_nil (w : World) (hw : OK w (fpL []) [] w) :
    Fn Try.prog 28 [.pointer none] [] w (fun _ : Nat × (Nat → Prop) => True) (fun y => .func (.func 51) #[] #[.pointer (some ⟨y.1, 0, none⟩)]) (fun y => [itR Try.prog 51 [.pointer (some ⟨y.1, 0, none⟩)] y.2 []]) := by
  refine enterF Try.func28 rfl Try.ntmps28 rfl hw ?_
  refine WC.seq ?_
  refine WC.region ?_
  refine WL.to (To.box (cs := [.pointer none]) rfl rfl) rfl ?_ -- t1
  intro b1
  refine WL.y (Yl.assign rfl) rfl ?_ -- t2
  refine WL.nil ?_
  refine WC.seq ?_
  refine WC.region ?_
  refine WL.y (Yl.makeFunc (xs := []) (ys := [.tmp 1]) rfl rfl) rfl ?_ -- t3
  refine WL.y (Yl.assign rfl) rfl ?_ -- t2
  refine WL.nil ?_
  refine WC.ret ?_
  repeat (first | (with_reducible refine peelT ?_) | (with_reducible refine peelB ?_) | (with_reducible refine peelTX ?_) | (with_reducible refine peelBX ?_) | (with_reducible refine peelBN ?_) | (with_reducible refine peelBO rfl ?_))
  refine ret1 (.inr rfl) Try.results28 rfl fun w' hh => ⟨(b1, (fpL [roR (blkR b1 41 [.pointer none])]).rd), trivial, rfl, ?_⟩
  have hA : OK w _ ([blkR b1 41 [.pointer none]] ++ []) w' := hh.sub (by repeat (first | exact TakeL.nil | (apply TakeL.cons; · repeat (first | exact Take1.head | apply Take1.tail))))
  exact hA.toIter (nw1_nil b1 w' hA.freeze.here) (fun k hk => rd_freeze (A := [blkR b1 41 [.pointer none]]) hk)
theorem find_nil (id : List Int) (w : World) (hw : OK w (fpL []) [] w) :
    Fn Try.prog 22 [.pointer none, .agg (ints .u8 id).toArray] [] w (fun _ : Unit => True) (fun _ => .tuple #[.agg Rc.zero.cells.toArray, .bool false]) (fun _ => []) := by
  refine enterM Try.func22 rfl Try.ntmps22 rfl hw ?_
  refine WC.seq ?_
  refine WC.region ?_
  refine WL.to (To.box (cs := ints .u8 id) rfl rfl) rfl ?_ -- t3
  intro b3
  refine WL.to (To.alloc (cs := Rc.zero.cells) zr46 rfl) rfl ?_ -- t4
  intro b4
  refine WL.to (To.alloc zr4 rfl) rfl ?_ -- t5
  intro b5
  refine WL.nil ?_
  refine WC.seq ?_
  refine WC.seq ?_
  refine WC.region ?_
  refine WL.y (Yl.move rfl) rfl ?_ -- t7
  refine WL.callC (xs := [.tmp 7]) (cap := []) rfl rfl en28 (by repeat (first | exact TakeL.nil | (apply TakeL.cons; · repeat (first | exact Take1.head | apply Take1.tail)))) (fun w hw => nw_nil w hw.left.here) rfl ?_ -- t8 (*hailer/log.Log).Newest
  rintro ⟨bn, own⟩ -
  refine WL.nil ?_
  refine WC.block ?_
  refine WC.range (α := Unit) (xs := []) (fun _ _ => [blkR b4 46 Rc.zero.cells, blkR b5 4 [.bool false]]) (fun _ _ => True) () rfl en51 (fun x hx => nomatch hx) rfl (by repeat (first | exact Take1.head | apply Take1.tail)) trivial (by repeat (first | exact TakeL.nil | (apply TakeL.cons; · repeat (first | exact Take1.head | apply Take1.tail)))) (fun l i x s hx => by simp at hx) ?_
  rintro _ D -
  dsimp only [List.cons_append, List.nil_append, List.length_nil]
  refine WC.seq ?_
  refine WC.region ?_
  refine WL.y (Yl.build rfl (cs := Rc.zero.cells) (fun _ => by kernel_rfl)) rfl ?_ -- t15
  refine WL.sto (Sto.agg sz46 rfl rfl (by repeat (first | exact Take1.head | apply Take1.tail)) (Rc.ones _) rfl (by rfl) (Rc.all (r := Rc.zero) rfl Rc.zero.cells rfl)) (fun _ h => nomatch h) ?_ -- st 4
  refine WL.sto (Sto.one sz4 rfl rfl (by repeat (first | exact Take1.head | apply Take1.tail)) rfl (by rfl) (by rfl)) (fun _ h => nomatch h) ?_ -- st 5
  refine WL.nil ?_
  refine WC.ret ?_
  repeat (first | (with_reducible refine peelT ?_) | (with_reducible refine peelB ?_) | (with_reducible refine peelTX ?_) | (with_reducible refine peelBX ?_) | (with_reducible refine peelBN ?_) | (with_reducible refine peelBO rfl ?_))
  refine retM.of (.cons (by repeat (first | exact Take1.head | apply Take1.tail)) .nil) ?_
  exact retCV (.inr rfl) Try.results22 ag46 on4 rfl rfl (by repeat (first | exact Take1.head | apply Take1.tail)) (by repeat (first | exact Take1.head | apply Take1.tail)) rfl fun w' h => ⟨(), trivial, rfl, h.sub (by repeat (first | exact TakeL.nil | (apply TakeL.cons; · repeat (first | exact Take1.head | apply Take1.tail))))⟩
theorem len_nil (w : World) (hw : OK w (fpL []) [] w) : Fn Try.prog 24 [.pointer none] [] w (fun _ : Unit => True) (fun _ => .int .i64 0) (fun _ => []) := by
  refine enterF Try.func24 rfl Try.ntmps24 rfl hw ?_
  refine WC.seq ?_
  refine WC.region ?_
  refine WL.y (Yl.assign rfl) rfl ?_ -- t2
  refine WL.nil ?_
  refine WC.seq ?_
  refine WC.seq ?_
  refine WC.region ?_
  refine WL.y (Yl.move rfl) rfl ?_ -- t3
  refine WL.y (Yl.nilEq un41 rfl rfl) rfl ?_ -- t4
  refine WL.know (t := 4) (b' := true) rfl (by first | rfl | (simp; done) | (simp; omega)) ?_
  refine WL.nil ?_
  refine WC.condT rfl (by first | rfl | (simp; done) | (simp; omega)) ?_
  refine WC.seq ?_
  refine WC.region ?_
  refine WL.y (Yl.assign rfl) rfl ?_ -- t2
  refine WL.nil ?_
  refine WC.ret ?_
  repeat (first | (with_reducible refine peelT ?_) | (with_reducible refine peelB ?_) | (with_reducible refine peelTX ?_) | (with_reducible refine peelBX ?_) | (with_reducible refine peelBN ?_) | (with_reducible refine peelBO rfl ?_))
  exact ret1 (.inr rfl) Try.results24 rfl fun w' h => ⟨(), trivial, rfl, h.sub (by repeat (first | exact TakeL.nil | (apply TakeL.cons; · repeat (first | exact Take1.head | apply Take1.tail))))⟩
theorem copy_nil (w : World) (hw : OK w (fpL []) [] w) : Fn Try.prog 18 [.pointer none] [] w (fun _ : Unit => True) (fun _ => .pointer none) (fun _ => []) := by
  refine enterF Try.func18 rfl Try.ntmps18 rfl hw ?_
  refine WC.seq ?_
  refine WC.region ?_
  refine WL.y (Yl.assign rfl) rfl ?_ -- t2
  refine WL.nil ?_
  refine WC.seq ?_
  refine WC.seq ?_
  refine WC.region ?_
  refine WL.y (Yl.move rfl) rfl ?_ -- t4
  refine WL.y (Yl.nilEq un41 rfl rfl) rfl ?_ -- t5
  refine WL.know (t := 5) (b' := true) rfl (by first | rfl | (simp; done) | (simp; omega)) ?_
  refine WL.nil ?_
  refine WC.condT rfl (by first | rfl | (simp; done) | (simp; omega)) ?_
  refine WC.seq ?_
  refine WC.region ?_
  refine WL.y (Yl.assign rfl) rfl ?_ -- t2
  refine WL.nil ?_
  refine WC.ret ?_
  repeat (first | (with_reducible refine peelT ?_) | (with_reducible refine peelB ?_) | (with_reducible refine peelTX ?_) | (with_reducible refine peelBX ?_) | (with_reducible refine peelBN ?_) | (with_reducible refine peelBO rfl ?_))
  exact ret1 (.inr rfl) Try.results18 rfl fun w' h => ⟨(), trivial, rfl, h.sub (by repeat (first | exact TakeL.nil | (apply TakeL.cons; · repeat (first | exact Take1.head | apply Take1.tail))))⟩
theorem bytes_nil (w : World) (hw : OK w (fpL []) [] w) : Fn Try.prog 25 [.pointer none] [] w (fun _ : Unit => True) (fun _ => .slice none 0 0) (fun _ => []) := by
  refine enterM Try.func25 rfl Try.ntmps25 rfl hw ?_
  refine WC.seq ?_
  refine WC.region ?_
  refine WL.y (Yl.assign rfl) rfl ?_ -- t2
  refine WL.nil ?_
  refine WC.seq ?_
  refine WC.seq ?_
  refine WC.region ?_
  refine WL.y (Yl.move rfl) rfl ?_ -- t7
  refine WL.y (Yl.nilEq un41 rfl rfl) rfl ?_ -- t8
  refine WL.know (t := 8) (b' := true) rfl (by first | rfl | (simp; done) | (simp; omega)) ?_
  refine WL.nil ?_
  refine WC.condT rfl (by first | rfl | (simp; done) | (simp; omega)) ?_
  refine WC.seq ?_
  refine WC.region ?_
  refine WL.y (Yl.assign rfl) rfl ?_ -- t2
  refine WL.nil ?_
  refine WC.ret ?_
  repeat (first | (with_reducible refine peelT ?_) | (with_reducible refine peelB ?_) | (with_reducible refine peelTX ?_) | (with_reducible refine peelBX ?_) | (with_reducible refine peelBN ?_) | (with_reducible refine peelBO rfl ?_))
  refine retM.of .nil ?_
  exact ret1 (.inr rfl) Try.results25 rfl fun w' h => ⟨(), trivial, rfl, h.sub (by repeat (first | exact TakeL.nil | (apply TakeL.cons; · repeat (first | exact Take1.head | apply Take1.tail))))⟩
theorem putI_nil (x : Int) (w : World) (hw : OK w (fpL []) [] w) : Fn Try.prog 32 [.pointer none, .int .i64 x] [] w (fun _ : Unit => True) (fun _ => .tuple #[.int .i64 0, .bool false]) (fun _ => []) := by
  refine enterF Try.func32 rfl Try.ntmps32 rfl hw ?_
  refine WC.seq ?_
  refine WC.region ?_
  refine WL.y (Yl.assign rfl) rfl ?_ -- t4
  refine WL.y (Yl.assign rfl) rfl ?_ -- t5
  refine WL.nil ?_
  refine WC.seq ?_
  refine WC.seq ?_
  refine WC.region ?_
  refine WL.y (Yl.move rfl) rfl ?_ -- t6
  refine WL.y (Yl.nilEq un75 rfl rfl) rfl ?_ -- t7
  refine WL.know (t := 7) (b' := true) rfl (by first | rfl | (simp; done) | (simp; omega)) ?_
  refine WL.nil ?_
  refine WC.condT rfl (by first | rfl | (simp; done) | (simp; omega)) ?_
  refine WC.seq ?_
  refine WC.region ?_
  refine WL.y (Yl.move rfl) rfl ?_ -- t8
  refine WL.y (Yl.assign rfl) rfl ?_ -- t4
  refine WL.y (Yl.assign rfl) rfl ?_ -- t5
  refine WL.nil ?_
  refine WC.ret ?_
  repeat (first | (with_reducible refine peelT ?_) | (with_reducible refine peelB ?_) | (with_reducible refine peelTX ?_) | (with_reducible refine peelBX ?_) | (with_reducible refine peelBN ?_) | (with_reducible refine peelBO rfl ?_))
  exact ret2 (.inr rfl) Try.results32 rfl rfl fun w' h => ⟨(), trivial, rfl, h.sub (by repeat (first | exact TakeL.nil | (apply TakeL.cons; · repeat (first | exact Take1.head | apply Take1.tail))))⟩
theorem lenI_nil (w : World) (hw : OK w (fpL []) [] w) : Fn Try.prog 33 [.pointer none] [] w (fun _ : Unit => True) (fun _ => .int .i64 0) (fun _ => []) := by
  refine enterF Try.func33 rfl Try.ntmps33 rfl hw ?_
  refine WC.seq ?_
  refine WC.region ?_
  refine WL.y (Yl.assign rfl) rfl ?_ -- t2
  refine WL.nil ?_
  refine WC.seq ?_
  refine WC.seq ?_
  refine WC.region ?_
  refine WL.y (Yl.move rfl) rfl ?_ -- t3
  refine WL.y (Yl.nilEq un75 rfl rfl) rfl ?_ -- t4
  refine WL.know (t := 4) (b' := true) rfl (by first | rfl | (simp; done) | (simp; omega)) ?_
  refine WL.nil ?_
  refine WC.condT rfl (by first | rfl | (simp; done) | (simp; omega)) ?_
  refine WC.seq ?_
  refine WC.region ?_
  refine WL.y (Yl.assign rfl) rfl ?_ -- t2
  refine WL.nil ?_
  refine WC.ret ?_
  repeat (first | (with_reducible refine peelT ?_) | (with_reducible refine peelB ?_) | (with_reducible refine peelTX ?_) | (with_reducible refine peelBX ?_) | (with_reducible refine peelBN ?_) | (with_reducible refine peelBO rfl ?_))
  exact ret1 (.inr rfl) Try.results33 rfl fun w' h => ⟨(), trivial, rfl, h.sub (by repeat (first | exact TakeL.nil | (apply TakeL.cons; · repeat (first | exact Take1.head | apply Take1.tail))))⟩
theorem dropI_nil (f : Value) (w : World) (hw : OK w (fpL []) [] w) : Fn Try.prog 34 [.pointer none, f] [] w (fun _ : Unit => True) (fun _ => .int .i64 0) (fun _ => []) := by
  refine enterF Try.func34 rfl Try.ntmps34 rfl hw ?_
  refine WC.seq ?_
  refine WC.region ?_
  refine WL.y (Yl.assign rfl) rfl ?_ -- t4
  refine WL.nil ?_
  refine WC.seq ?_
  refine WC.seq ?_
  refine WC.region ?_
  refine WL.y (Yl.move rfl) rfl ?_ -- t6
  refine WL.y (Yl.nilEq un75 rfl rfl) rfl ?_ -- t7
  refine WL.know (t := 7) (b' := true) rfl (by first | rfl | (simp; done) | (simp; omega)) ?_
  refine WL.nil ?_
  refine WC.condT rfl (by first | rfl | (simp; done) | (simp; omega)) ?_
  refine WC.seq ?_
  refine WC.region ?_
  refine WL.y (Yl.assign rfl) rfl ?_ -- t4
  refine WL.nil ?_
  refine WC.ret ?_
  repeat (first | (with_reducible refine peelT ?_) | (with_reducible refine peelB ?_) | (with_reducible refine peelTX ?_) | (with_reducible refine peelBX ?_) | (with_reducible refine peelBN ?_) | (with_reducible refine peelBO rfl ?_))
  exact ret1 (.inr rfl) Try.results34 rfl fun w' h => ⟨(), trivial, rfl, h.sub (by repeat (first | exact TakeL.nil | (apply TakeL.cons; · repeat (first | exact Take1.head | apply Take1.tail))))⟩
end Go.Proofs.Ytpjgmiemamcdhaa
