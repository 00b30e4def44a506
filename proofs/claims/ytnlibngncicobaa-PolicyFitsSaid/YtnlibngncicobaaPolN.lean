/- PolicyFits: the law. -/
import Derived.Test.YtnlibngncicobaaPolM
import Derived.Test.YtnlibngncicobaaLibM
namespace Go.Proofs.Ytnlibngncicobaa
open Go Go.RowKit
def ruLeaf : List Leaf := [some .u8, some .u16, some .u16, some .u8, none]
theorem Ru.of_fits {cs : List Value} (h : Fits1 ruLeaf cs) : ∃ r : Ru, r.ok ∧ cs = r.cells := by
  match cs, h with
  | [.int q1 a, .int q2 b, .int q3 c, .int q4 d, .bool e], h =>
    obtain ⟨⟨rfl, w1⟩, ⟨rfl, w2⟩, ⟨rfl, w3⟩, ⟨rfl, w4⟩, _⟩ := h
    exact ⟨⟨a, b, c, d, e⟩, ⟨wf_u8 w1, wf_u16 w2, wf_u16 w3, wf_u8 w4⟩, rfl⟩
set_option maxRecDepth 100000 in
theorem fitsL_any (r : Ru) (a now : Int) (hn : 0 ≤ now ∧ now < 18446744073709551616) (w : World) (hw : OK w (fpL []) [] w) :
    Fn Try.prog 3 [.agg r.cells.toArray, .int .u8 a, .int .u64 now] [] w (fun _ : Unit => True) (fun _ => .bool true) (fun _ => []) := by
  refine enterF Try.func3 rfl Try.ntmps3 rfl hw ?_
  refine WC.seq ?_
  refine WC.region ?_
  refine WL.to (To.box (cs := r.cells) rfl rfl) rfl ?_ -- t3
  intro b3
  refine WL.y (Yl.assign rfl) rfl ?_ -- t6
  refine WL.nil ?_
  refine WC.seq ?_
  refine WC.seq ?_
  refine WC.region ?_
  refine WL.callC (xs := []) (cap := []) rfl rfl en8 (by repeat (first | exact TakeL.nil | (apply TakeL.cons; · repeat (first | exact Take1.head | apply Take1.tail)))) (fun w hw => known_any w hw.left.here) rfl ?_ -- t8 hailer/hailerlaw38.known
  rintro ⟨⟩ -
  refine WL.y (Yl.not rfl) rfl ?_ -- t9
  refine WL.know (t := 9) (b' := false) rfl (by first | rfl | (simp; done) | (simp; omega)) ?_
  refine WL.nil ?_
  refine WC.condF rfl (by first | rfl | (simp; done) | (simp; omega)) ?_
  refine WC.skip ?_
  refine WC.seq ?_
  refine WC.region ?_
  refine WL.y (Yl.loadN ag24 rfl (by repeat (first | exact Take1.head | apply Take1.tail)) (by rfl) (Ru.call r)) rfl ?_ -- t10
  refine WL.to (To.alloc (cs := Ru.zero.cells) zr27 rfl) rfl ?_ -- t7
  intro b7
  refine WL.sto (Sto.agg sz27 rfl rfl (by repeat (first | exact Take1.head | apply Take1.tail)) (Ru.ones _) (Ru.len r) (by rfl) (Ru.all Ru.zero r.cells (Ru.len r))) (fun _ h => nomatch h) ?_ -- st 1
  refine WL.nil ?_
  refine WC.seq ?_
  refine WC.drawAny (Hs := [blkR b3 24 r.cells, blkR b7 27 r.cells]) mixed (by kernel_rfl) ⟨_, (by repeat (first | exact TakeL.nil | (apply TakeL.cons; · repeat (first | exact Take1.head | apply Take1.tail))))⟩ ?_
  refine WD.take 0 rfl (by kernel_rfl) (by kernel_rfl) (by kernel_rfl) rfl rfl (Yl.loadN ag24 rfl (by repeat (first | exact Take1.head | apply Take1.tail)) (by rfl) (Ru.call r)) rfl ?_ -- t11
  refine WD.take 2 rfl (by kernel_rfl) (by kernel_rfl) (by kernel_rfl) rfl rfl (Yl.loadN ag27 rfl (by repeat (first | exact Take1.head | apply Take1.tail)) (by rfl) (Ru.call r)) rfl ?_ -- t13
  refine WD.one 1 (by kernel_rfl) ?_
  refine WO.callC (xs := [.tmp 11]) (cap := []) rfl .no rfl rfl en9 (by repeat (first | exact TakeL.nil | (apply TakeL.cons; · repeat (first | exact Take1.head | apply Take1.tail)))) (fun w hw => may_any r w hw.left.here) rfl (fun _ => ⟨_, (by repeat (first | exact TakeL.nil | (apply TakeL.cons; · repeat (first | exact Take1.head | apply Take1.tail))))⟩) ?_ -- t12 (hailer/policy.Rule).May
  rintro ⟨⟩ -
  refine WD.one 3 (by kernel_rfl) ?_
  refine WO.callC (xs := [.tmp 13]) (cap := []) rfl .no rfl rfl en10 (by repeat (first | exact TakeL.nil | (apply TakeL.cons; · repeat (first | exact Take1.head | apply Take1.tail)))) (fun w hw => rmay_any r w hw.left.here) rfl (fun _ => ⟨_, (by repeat (first | exact TakeL.nil | (apply TakeL.cons; · repeat (first | exact Take1.head | apply Take1.tail))))⟩) ?_ -- t14 hailer/hailerref38.May
  rintro ⟨⟩ -
  refine WD.take 4 rfl (by kernel_rfl) (by kernel_rfl) (by kernel_rfl) rfl rfl (Yl.bEq un4 rfl rfl) rfl ?_ -- t15
  refine WD.know (t := 15) (b' := true) rfl (by simp) ?_
  refine WD.take 5 rfl (by kernel_rfl) (by kernel_rfl) (by kernel_rfl) rfl rfl (Yl.move rfl) rfl ?_ -- t16
  refine WD.takeOn 6 rfl (by kernel_rfl) (by kernel_rfl) (by kernel_rfl) rfl rfl rfl rfl (Yl.loadN ag24 rfl (by repeat (first | exact Take1.head | apply Take1.tail)) (by rfl) (Ru.call r)) rfl ?_ -- t17
  refine WD.takeOn 7 rfl (by kernel_rfl) (by kernel_rfl) (by kernel_rfl) rfl rfl rfl rfl (Yl.move rfl) rfl ?_ -- t18
  refine WD.takeOn 8 rfl (by kernel_rfl) (by kernel_rfl) (by kernel_rfl) rfl rfl rfl rfl (Yl.move rfl) rfl ?_ -- t19
  refine WD.takeOn 10 rfl (by kernel_rfl) (by kernel_rfl) (by kernel_rfl) rfl rfl rfl rfl (Yl.loadN ag27 rfl (by repeat (first | exact Take1.head | apply Take1.tail)) (by rfl) (Ru.call r)) rfl ?_ -- t21
  refine WD.takeOn 11 rfl (by kernel_rfl) (by kernel_rfl) (by kernel_rfl) rfl rfl rfl rfl (Yl.move rfl) rfl ?_ -- t22
  refine WD.takeOn 12 rfl (by kernel_rfl) (by kernel_rfl) (by kernel_rfl) rfl rfl rfl rfl (Yl.move rfl) rfl ?_ -- t23
  refine WD.one 9 (by kernel_rfl) ?_
  refine WO.callC (xs := [.tmp 17, .tmp 18, .tmp 19]) (cap := []) rfl (.on rfl rfl) rfl rfl en11 (by repeat (first | exact TakeL.nil | (apply TakeL.cons; · repeat (first | exact Take1.head | apply Take1.tail)))) (fun w hw => fits_any r a now hn w hw.left.here) rfl (fun _ => ⟨_, (by repeat (first | exact TakeL.nil | (apply TakeL.cons; · repeat (first | exact Take1.head | apply Take1.tail))))⟩) ?_ -- t20 (hailer/policy.Rule).Fits
  rintro ⟨⟩ -
  refine WD.one 13 (by kernel_rfl) ?_
  refine WO.callC (xs := [.tmp 21, .tmp 22, .tmp 23]) (cap := []) rfl (.on rfl rfl) rfl rfl en12 (by repeat (first | exact TakeL.nil | (apply TakeL.cons; · repeat (first | exact Take1.head | apply Take1.tail)))) (fun w hw => rfits_any r a now hn w hw.left.here) rfl (fun _ => ⟨_, (by repeat (first | exact TakeL.nil | (apply TakeL.cons; · repeat (first | exact Take1.head | apply Take1.tail))))⟩) ?_ -- t24 hailer/hailerref38.Fits
  rintro ⟨⟩ -
  refine WD.takeOn 14 rfl (by kernel_rfl) (by kernel_rfl) (by kernel_rfl) rfl rfl rfl rfl (Yl.bEq un4 rfl rfl) rfl ?_ -- t25
  refine WD.know (t := 25) (b' := true) rfl (by simp) ?_
  refine WD.take 15 rfl (by kernel_rfl) (by kernel_rfl) (by kernel_rfl) rfl rfl (Yl.pickT rfl rfl) rfl ?_ -- t26
  refine WD.take 16 rfl (by kernel_rfl) (by kernel_rfl) (by kernel_rfl) rfl rfl (Yl.assign rfl) rfl ?_ -- t6
  refine WD.done (by kernel_rfl) ?_
  refine WC.ret ?_
  repeat (first | (with_reducible refine peelT ?_) | (with_reducible refine peelB ?_) | (with_reducible refine peelTX ?_) | (with_reducible refine peelBX ?_) | (with_reducible refine peelBN ?_) | (with_reducible refine peelBO rfl ?_))
  exact ret1 (.inr rfl) Try.results3 rfl fun w' h => ⟨(), trivial, rfl, h.sub (by repeat (first | exact TakeL.nil | (apply TakeL.cons; · repeat (first | exact Take1.head | apply Take1.tail))))⟩
end Go.Proofs.Ytnlibngncicobaa
