/- LogLoads: the walk. -/
import Derived.Test.YtpjgmiemamcdhaaLogS
namespace Go.Proofs.Ytpjgmiemamcdhaa
open Go Go.RowKit

set_option maxRecDepth 100000 in
theorem logLoads_no (bs : List Int) (v : Value) (hB : Bytes bs) (hok : okL bs = false) (w : World) (hw : OK w (fpL [rdR v 1 bs.length (ints .u8 bs)]) [rdR v 1 bs.length (ints .u8 bs)] w) :
    Fn Try.prog 5 [v] [rdR v 1 bs.length (ints .u8 bs)] w (fun _ : Unit => True) (fun _ => .bool true) (fun _ => []) := by
  obtain ⟨al, cl, rfl, hcl, hml⟩ := (hw.get .head : Rd _ _ _ _ _).form
  refine enterF Try.func5 rfl Try.ntmps5 rfl hw ?_
  refine WC.seq ?_
  refine WC.region ?_
  refine WL.y (Yl.assign rfl) rfl ?_ -- t2
  refine WL.nil ?_
  refine WC.seq ?_
  refine WC.seq ?_
  refine WC.region ?_
  refine WL.callC (xs := []) (cap := []) rfl rfl en8 (by repeat (first | exact TakeL.nil | (apply TakeL.cons; · repeat (first | exact Take1.head | apply Take1.tail)))) (fun w hw => worksL_any w hw.left.here) rfl ?_ -- t7 hailer/hailerlaw25.works
  rintro ⟨⟩ -
  refine WL.y (Yl.not rfl) rfl ?_ -- t8
  refine WL.nil ?_
  refine WC.condF rfl (by first | rfl | (simp; done) | (simp; omega)) ?_
  refine WC.skip ?_
  refine WC.seq ?_
  refine WC.seq ?_
  refine WC.region ?_
  refine WL.y (Yl.move rfl) rfl ?_ -- t9
  refine WL.y (Yl.len un56 rfl) rfl ?_ -- t10
  refine WL.y (Yl.gtr rfl rfl) rfl ?_ -- t11
  refine WL.nil ?_
  refine WC.condD rfl (fun g11 => ?_) (fun g11 => ?_)
  · refine WC.seq ?_
    refine WC.region ?_
    refine WL.y (Yl.assign rfl) rfl ?_ -- t2
    refine WL.nil ?_
    refine WC.ret ?_
    repeat (first | (with_reducible refine peelT ?_) | (with_reducible refine peelB ?_) | (with_reducible refine peelTX ?_) | (with_reducible refine peelBX ?_) | (with_reducible refine peelBN ?_) | (with_reducible refine peelBO rfl ?_))
    exact ret1 (.inr rfl) Try.results5 rfl fun w' h => ⟨(), trivial, rfl, h.sub (by repeat (first | exact TakeL.nil | (apply TakeL.cons; · repeat (first | exact Take1.head | apply Take1.tail))))⟩
  · refine WC.skip ?_
    refine WC.seq ?_
    refine WC.region ?_
    refine WL.y (Yl.move rfl) rfl ?_ -- t13
    refine WL.view (fun w h => h.dup (r := rdR (.slice al bs.length cl) 1 bs.length (ints .u8 bs)) (by repeat (first | exact Take1.head | apply Take1.tail)) (fun _ h => h)) ?_
    refine WL.callC (xs := [.tmp 13]) (cap := []) rfl rfl en30 (by repeat (first | exact TakeL.nil | (apply TakeL.cons; · repeat (first | exact Take1.head | apply Take1.tail)))) (fun w hw => load_any bs _ hB (by omega) w hw.left.here) rfl ?_ -- t14 hailer/log.Load
    rintro ⟨⟨bl, bb⟩, ao, ca⟩ -
    dsimp only
    rw [if_neg (by rw [hok]; decide)]
    refine WL.y (Yl.move rfl) rfl ?_ -- t12
    refine WL.y (Yl.extract rfl rfl) rfl ?_ -- t15
    refine WL.y (Yl.extract rfl rfl) rfl ?_ -- t16
    refine WL.y (Yl.assign rfl) rfl ?_ -- t3
    refine WL.y (Yl.assign rfl) rfl ?_ -- t4
    refine WL.nil ?_
    refine WC.seq ?_
    refine WC.region ?_
    refine WL.y (Yl.move rfl) rfl ?_ -- t18
    refine WL.callC (xs := [.tmp 18]) (cap := []) rfl rfl en31 (by repeat (first | exact TakeL.nil | (apply TakeL.cons; · repeat (first | exact Take1.head | apply Take1.tail)))) (fun w hw => rload_any bs _ hB (by omega) w (hw.src (A := []) (r := rdR (.slice al bs.length cl) 1 bs.length (ints .u8 bs)) RdOf.rd' (by repeat (first | exact Take1.head | apply Take1.tail))) hw.left.here) rfl ?_ -- t19 hailer/hailerref25.Load
    rintro ⟨a19, c19⟩ -
    dsimp only
    refine WL.y (Yl.move rfl) rfl ?_ -- t17
    refine WL.y (Yl.extract rfl rfl) rfl ?_ -- t20
    refine WL.y (Yl.extract rfl rfl) rfl ?_ -- t21
    refine WL.y (Yl.assign rfl) rfl ?_ -- t5
    refine WL.y (Yl.assign rfl) rfl ?_ -- t6
    refine WL.nil ?_
    refine WC.seq ?_
    unfold ldV ldE
    rw [hok]
    refine WC.drawAny (Hs := []) mixed (by kernel_rfl) ⟨_, (by repeat (first | exact TakeL.nil | (apply TakeL.cons; · repeat (first | exact Take1.head | apply Take1.tail))))⟩ ?_
    refine WD.take 0 rfl (by kernel_rfl) (by kernel_rfl) (by kernel_rfl) rfl rfl (Yl.move rfl) rfl ?_ -- t22
    refine WD.take 1 rfl (by kernel_rfl) (by kernel_rfl) (by kernel_rfl) rfl rfl (Yl.move rfl) rfl ?_ -- t23
    refine WD.take 2 rfl (by kernel_rfl) (by kernel_rfl) (by kernel_rfl) rfl rfl (Yl.eql rfl rfl) rfl ?_ -- t24
    refine WD.know (t := 24) (b' := true) rfl (by first | rfl | (simp; done) | (simp; omega)) ?_
    refine WD.take 3 rfl (by kernel_rfl) (by kernel_rfl) (by kernel_rfl) rfl rfl (Yl.move rfl) rfl ?_ -- t25
    refine WD.takeOn 4 rfl (by kernel_rfl) (by kernel_rfl) (by kernel_rfl) rfl rfl rfl rfl (Yl.move rfl) rfl ?_ -- t26
    refine WD.takeOn 5 rfl (by kernel_rfl) (by kernel_rfl) (by kernel_rfl) rfl rfl rfl rfl (Yl.neq rfl rfl) rfl ?_ -- t27
    refine WD.know (t := 27) (b' := true) rfl (by first | rfl | (simp; done) | (simp; omega)) ?_
    refine WD.takeOn 6 rfl (by kernel_rfl) (by kernel_rfl) (by kernel_rfl) rfl rfl rfl rfl (Yl.move rfl) rfl ?_ -- t28
    refine WD.takeOn 7 rfl (by kernel_rfl) (by kernel_rfl) (by kernel_rfl) rfl rfl rfl rfl (Yl.move rfl) rfl ?_ -- t29
    refine WD.takeOn 8 rfl (by kernel_rfl) (by kernel_rfl) (by kernel_rfl) rfl rfl rfl rfl (Yl.nilEq un41 rfl rfl) rfl ?_ -- t30
    refine WD.know (t := 30) (b' := true) rfl (by first | rfl | (simp; done) | (simp; omega)) ?_
    refine WD.takeOn 9 rfl (by kernel_rfl) (by kernel_rfl) (by kernel_rfl) rfl rfl rfl rfl (Yl.pickT rfl rfl) rfl ?_ -- t31
    refine WD.takeOn 10 rfl (by kernel_rfl) (by kernel_rfl) (by kernel_rfl) rfl rfl rfl rfl (Yl.move rfl) rfl ?_ -- t32
    refine WD.takeOff 11 rfl (by kernel_rfl) (by kernel_rfl) (by kernel_rfl) rfl rfl rfl rfl rfl rfl ?_ -- t33
    refine WD.takeOff 12 rfl (by kernel_rfl) (by kernel_rfl) (by kernel_rfl) rfl rfl rfl rfl rfl rfl ?_ -- t34
    refine WD.takeOff 13 rfl (by kernel_rfl) (by kernel_rfl) (by kernel_rfl) rfl rfl rfl rfl rfl rfl ?_ -- t35
    refine WD.takeOffU 14 rfl (by kernel_rfl) (by kernel_rfl) (by kernel_rfl) rfl rfl rfl rfl rfl ?_ -- t36
    refine WD.takeOffU 16 rfl (by kernel_rfl) (by kernel_rfl) (by kernel_rfl) rfl rfl rfl rfl rfl ?_ -- t38
    refine WD.takeOffU 17 rfl (by kernel_rfl) (by kernel_rfl) (by kernel_rfl) rfl rfl rfl rfl rfl ?_ -- t39
    refine WD.one 15 (by kernel_rfl) ?_
    refine WO.offU rfl rfl rfl rfl rfl rfl ?_ -- t37
    refine WD.takeOffU 18 rfl (by kernel_rfl) (by kernel_rfl) (by kernel_rfl) rfl rfl rfl rfl rfl ?_ -- t40
    refine WD.takeOff 19 rfl (by kernel_rfl) (by kernel_rfl) (by kernel_rfl) rfl rfl rfl rfl rfl rfl ?_ -- t41
    refine WD.takeOff 20 rfl (by kernel_rfl) (by kernel_rfl) (by kernel_rfl) rfl rfl rfl rfl rfl rfl ?_ -- t42
    refine WD.takeOffU 21 rfl (by kernel_rfl) (by kernel_rfl) (by kernel_rfl) rfl rfl rfl rfl rfl ?_ -- t43
    refine WD.takeOffU 24 rfl (by kernel_rfl) (by kernel_rfl) (by kernel_rfl) rfl rfl rfl rfl rfl ?_ -- t46
    refine WD.one 22 (by kernel_rfl) ?_
    refine WO.offU rfl rfl rfl rfl rfl rfl ?_ -- t44
    refine WD.takeOffU 23 rfl (by kernel_rfl) (by kernel_rfl) (by kernel_rfl) rfl rfl rfl rfl rfl ?_ -- t45
    refine WD.one 25 (by kernel_rfl) ?_
    refine WO.offU rfl rfl rfl rfl rfl rfl ?_ -- t47
    refine WD.takeOffU 26 rfl (by kernel_rfl) (by kernel_rfl) (by kernel_rfl) rfl rfl rfl rfl rfl ?_ -- t48
    refine WD.takeOffU 27 rfl (by kernel_rfl) (by kernel_rfl) (by kernel_rfl) rfl rfl rfl rfl rfl ?_ -- t49
    refine WD.takeOff 28 rfl (by kernel_rfl) (by kernel_rfl) (by kernel_rfl) rfl rfl rfl rfl rfl rfl ?_ -- t50
    refine WD.takeOn 29 rfl (by kernel_rfl) (by kernel_rfl) (by kernel_rfl) rfl rfl rfl rfl (Yl.pickT rfl rfl) rfl ?_ -- t51
    refine WD.take 30 rfl (by kernel_rfl) (by kernel_rfl) (by kernel_rfl) rfl rfl (Yl.pickT rfl rfl) rfl ?_ -- t52
    refine WD.take 31 rfl (by kernel_rfl) (by kernel_rfl) (by kernel_rfl) rfl rfl (Yl.assign rfl) rfl ?_ -- t2
    refine WD.done (by kernel_rfl) ?_
    refine WC.ret ?_
    repeat (first | (with_reducible refine peelT ?_) | (with_reducible refine peelB ?_) | (with_reducible refine peelTX ?_) | (with_reducible refine peelBX ?_) | (with_reducible refine peelBN ?_) | (with_reducible refine peelBO rfl ?_))
    exact ret1 (.inr rfl) Try.results5 rfl fun w' h => ⟨(), trivial, rfl, h.sub (by repeat (first | exact TakeL.nil | (apply TakeL.cons; · repeat (first | exact Take1.head | apply Take1.tail))))⟩

set_option maxRecDepth 100000 in
theorem logLoads_yes (bs : List Int) (v : Value) (hB : Bytes bs) (hok : okL bs = true) (w : World) (hw : OK w (fpL [rdR v 1 bs.length (ints .u8 bs)]) [rdR v 1 bs.length (ints .u8 bs)] w) :
    Fn Try.prog 5 [v] [rdR v 1 bs.length (ints .u8 bs)] w (fun _ : Unit => True) (fun _ => .bool true) (fun _ => []) := by
  obtain ⟨al, cl, rfl, hcl, hml⟩ := (hw.get .head : Rd _ _ _ _ _).form
  refine enterF Try.func5 rfl Try.ntmps5 rfl hw ?_
  refine WC.seq ?_
  refine WC.region ?_
  refine WL.y (Yl.assign rfl) rfl ?_ -- t2
  refine WL.nil ?_
  refine WC.seq ?_
  refine WC.seq ?_
  refine WC.region ?_
  refine WL.callC (xs := []) (cap := []) rfl rfl en8 (by repeat (first | exact TakeL.nil | (apply TakeL.cons; · repeat (first | exact Take1.head | apply Take1.tail)))) (fun w hw => worksL_any w hw.left.here) rfl ?_ -- t7 hailer/hailerlaw25.works
  rintro ⟨⟩ -
  refine WL.y (Yl.not rfl) rfl ?_ -- t8
  refine WL.nil ?_
  refine WC.condF rfl (by first | rfl | (simp; done) | (simp; omega)) ?_
  refine WC.skip ?_
  refine WC.seq ?_
  refine WC.seq ?_
  refine WC.region ?_
  refine WL.y (Yl.move rfl) rfl ?_ -- t9
  refine WL.y (Yl.len un56 rfl) rfl ?_ -- t10
  refine WL.y (Yl.gtr rfl rfl) rfl ?_ -- t11
  refine WL.nil ?_
  refine WC.condD rfl (fun g11 => ?_) (fun g11 => ?_)
  · refine WC.seq ?_
    refine WC.region ?_
    refine WL.y (Yl.assign rfl) rfl ?_ -- t2
    refine WL.nil ?_
    refine WC.ret ?_
    repeat (first | (with_reducible refine peelT ?_) | (with_reducible refine peelB ?_) | (with_reducible refine peelTX ?_) | (with_reducible refine peelBX ?_) | (with_reducible refine peelBN ?_) | (with_reducible refine peelBO rfl ?_))
    exact ret1 (.inr rfl) Try.results5 rfl fun w' h => ⟨(), trivial, rfl, h.sub (by repeat (first | exact TakeL.nil | (apply TakeL.cons; · repeat (first | exact Take1.head | apply Take1.tail))))⟩
  · refine WC.skip ?_
    refine WC.seq ?_
    refine WC.region ?_
    refine WL.y (Yl.move rfl) rfl ?_ -- t13
    refine WL.view (fun w h => h.dup (r := rdR (.slice al bs.length cl) 1 bs.length (ints .u8 bs)) (by repeat (first | exact Take1.head | apply Take1.tail)) (fun _ h => h)) ?_
    refine WL.callC (xs := [.tmp 13]) (cap := []) rfl rfl en30 (by repeat (first | exact TakeL.nil | (apply TakeL.cons; · repeat (first | exact Take1.head | apply Take1.tail)))) (fun w hw => load_any bs _ hB (by omega) w hw.left.here) rfl ?_ -- t14 hailer/log.Load
    rintro ⟨⟨bl, bb⟩, ao, ca⟩ -
    dsimp only
    rw [if_pos hok]
    refine WL.y (Yl.move rfl) rfl ?_ -- t12
    refine WL.y (Yl.extract rfl rfl) rfl ?_ -- t15
    refine WL.y (Yl.extract rfl rfl) rfl ?_ -- t16
    refine WL.y (Yl.assign rfl) rfl ?_ -- t3
    refine WL.y (Yl.assign rfl) rfl ?_ -- t4
    refine WL.nil ?_
    refine WC.seq ?_
    refine WC.region ?_
    refine WL.y (Yl.move rfl) rfl ?_ -- t18
    refine WL.callC (xs := [.tmp 18]) (cap := []) rfl rfl en31 (by repeat (first | exact TakeL.nil | (apply TakeL.cons; · repeat (first | exact Take1.head | apply Take1.tail)))) (fun w hw => rload_any bs _ hB (by omega) w (hw.src (A := []) (r := rdR (.slice al bs.length cl) 1 bs.length (ints .u8 bs)) RdOf.rd' (by repeat (first | exact Take1.head | apply Take1.tail))) hw.left.here) rfl ?_ -- t19 hailer/hailerref25.Load
    rintro ⟨a19, c19⟩ -
    dsimp only
    refine WL.y (Yl.move rfl) rfl ?_ -- t17
    refine WL.y (Yl.extract rfl rfl) rfl ?_ -- t20
    refine WL.y (Yl.extract rfl rfl) rfl ?_ -- t21
    refine WL.y (Yl.assign rfl) rfl ?_ -- t5
    refine WL.y (Yl.assign rfl) rfl ?_ -- t6
    refine WL.nil ?_
    refine WC.seq ?_
    have hbi := recN_le bs
    have hG := recsOf_ok hB (Nat.le_refl (recN bs))
    have hM := recsOf_may (Nat.le_refl (recN bs))
    have hrl := recsOf_len bs (recN bs)
    unfold ldV ldE ldL
    rw [hok]
    simp only [if_true]
    obtain ⟨r, hr⟩ : ∃ r, recsOf bs (recN bs) = r := ⟨_, rfl⟩
    rw [hr] at hG hM hrl ⊢
    dsimp only [logR, List.cons_append, List.nil_append]
    refine WC.view (fun w h => OK.roOne (r := blkR bl 87 [.pointer (some ⟨bb, 0, none⟩)]) h (by repeat (first | exact Take1.head | apply Take1.tail))) ?_
    refine WC.view (fun w h => OK.roOne (r := blkR bb 90 [.slice ao r.length ca, .int .i64 4096]) h (by repeat (first | exact Take1.head | apply Take1.tail))) ?_
    refine WC.view (fun w h => h.readOnly (v := .slice ao r.length ca) (by repeat (first | exact Take1.head | apply Take1.tail))) ?_
    refine WC.drawAny (Hs := []) mixed (by kernel_rfl) ⟨_, (by repeat (first | exact TakeL.nil | (apply TakeL.cons; · repeat (first | exact Take1.head | apply Take1.tail))))⟩ ?_
    refine WD.take 0 rfl (by kernel_rfl) (by kernel_rfl) (by kernel_rfl) rfl rfl (Yl.move rfl) rfl ?_ -- t22
    refine WD.take 1 rfl (by kernel_rfl) (by kernel_rfl) (by kernel_rfl) rfl rfl (Yl.move rfl) rfl ?_ -- t23
    refine WD.take 2 rfl (by kernel_rfl) (by kernel_rfl) (by kernel_rfl) rfl rfl (Yl.eql rfl rfl) rfl ?_ -- t24
    refine WD.know (t := 24) (b' := true) rfl (by first | rfl | (simp; done) | (simp; omega)) ?_
    refine WD.take 3 rfl (by kernel_rfl) (by kernel_rfl) (by kernel_rfl) rfl rfl (Yl.move rfl) rfl ?_ -- t25
    refine WD.takeOn 4 rfl (by kernel_rfl) (by kernel_rfl) (by kernel_rfl) rfl rfl rfl rfl (Yl.move rfl) rfl ?_ -- t26
    refine WD.takeOn 5 rfl (by kernel_rfl) (by kernel_rfl) (by kernel_rfl) rfl rfl rfl rfl (Yl.neq rfl rfl) rfl ?_ -- t27
    refine WD.know (t := 27) (b' := false) rfl (by first | rfl | (simp; done) | (simp; omega)) ?_
    refine WD.takeOn 6 rfl (by kernel_rfl) (by kernel_rfl) (by kernel_rfl) rfl rfl rfl rfl (Yl.move rfl) rfl ?_ -- t28
    refine WD.takeOff 7 rfl (by kernel_rfl) (by kernel_rfl) (by kernel_rfl) rfl rfl rfl rfl rfl rfl ?_ -- t29
    refine WD.takeOff 8 rfl (by kernel_rfl) (by kernel_rfl) (by kernel_rfl) rfl rfl rfl rfl rfl rfl ?_ -- t30
    refine WD.takeOn 9 rfl (by kernel_rfl) (by kernel_rfl) (by kernel_rfl) rfl rfl rfl rfl (Yl.pickF rfl rfl) rfl ?_ -- t31
    refine WD.takeOn 10 rfl (by kernel_rfl) (by kernel_rfl) (by kernel_rfl) rfl rfl rfl rfl (Yl.move rfl) rfl ?_ -- t32
    refine WD.takeOn 11 rfl (by kernel_rfl) (by kernel_rfl) (by kernel_rfl) rfl rfl rfl rfl (Yl.move rfl) rfl ?_ -- t33
    refine WD.takeOn 12 rfl (by kernel_rfl) (by kernel_rfl) (by kernel_rfl) rfl rfl rfl rfl (Yl.eql rfl rfl) rfl ?_ -- t34
    refine WD.know (t := 34) (b' := true) rfl (by first | rfl | (simp; done) | (simp; omega)) ?_
    refine WD.takeOn 13 rfl (by kernel_rfl) (by kernel_rfl) (by kernel_rfl) rfl rfl rfl rfl (Yl.move rfl) rfl ?_ -- t35
    refine WD.takeOn 14 rfl (by kernel_rfl) (by kernel_rfl) (by kernel_rfl) rfl rfl rfl rfl (Yl.move rfl) rfl ?_ -- t36
    refine WD.takeOn 16 rfl (by kernel_rfl) (by kernel_rfl) (by kernel_rfl) rfl rfl rfl rfl (Yl.move rfl) rfl ?_ -- t38
    refine WD.takeOn 17 rfl (by kernel_rfl) (by kernel_rfl) (by kernel_rfl) rfl rfl rfl rfl (Yl.len un39 rfl) rfl ?_ -- t39
    refine WD.one 15 (by kernel_rfl) ?_
    refine WO.callC (xs := [.tmp 36]) (cap := []) rfl (.on rfl rfl) rfl rfl en24 (by repeat (first | exact TakeL.nil | (apply TakeL.cons; · repeat (first | exact Take1.head | apply Take1.tail)))) (fun w hw => logLenS_any bl bb ao r.length ca w (hw.srcRo (A := []) (by repeat (first | exact Take1.head | apply Take1.tail))) (hw.srcRo (A := []) (by repeat (first | exact Take1.head | apply Take1.tail))) hw.left.here) rfl (fun _ => ⟨_, (by repeat (first | exact TakeL.nil | (apply TakeL.cons; · repeat (first | exact Take1.head | apply Take1.tail))))⟩) ?_ -- t37 (*hailer/log.Log).Len
    rintro ⟨⟩ -
    refine WD.takeOn 18 rfl (by kernel_rfl) (by kernel_rfl) (by kernel_rfl) rfl rfl rfl rfl (Yl.eql rfl rfl) rfl ?_ -- t40
    refine WD.know (t := 40) (b' := true) rfl (by first | rfl | (simp; done) | (simp; omega)) ?_
    refine WD.takeOn 19 rfl (by kernel_rfl) (by kernel_rfl) (by kernel_rfl) rfl rfl rfl rfl (Yl.pickT rfl rfl) rfl ?_ -- t41
    refine WD.takeOn 20 rfl (by kernel_rfl) (by kernel_rfl) (by kernel_rfl) rfl rfl rfl rfl (Yl.move rfl) rfl ?_ -- t42
    refine WD.takeOn 21 rfl (by kernel_rfl) (by kernel_rfl) (by kernel_rfl) rfl rfl rfl rfl (Yl.move rfl) rfl ?_ -- t43
    refine WD.takeOn 24 rfl (by kernel_rfl) (by kernel_rfl) (by kernel_rfl) rfl rfl rfl rfl (Yl.move rfl) rfl ?_ -- t46
    refine WD.one 22 (by kernel_rfl) ?_
    refine WO.callC (xs := [.tmp 43]) (cap := []) rfl (.on rfl rfl) rfl rfl en25 (by repeat (first | exact TakeL.nil | (apply TakeL.cons; · repeat (first | exact Take1.head | apply Take1.tail)))) (fun w hw => bytesL_any bl bb ao ca r hG hM (by omega) w hw.left.here) rfl (fun _ => ⟨_, (by repeat (first | exact TakeL.nil | (apply TakeL.cons; · repeat (first | exact Take1.head | apply Take1.tail))))⟩) ?_ -- t44 (*hailer/log.Log).Bytes
    rintro ⟨a44, c44⟩ -
    dsimp only
    refine WD.two 23 25 (by kernel_rfl) ?_ ?_
    · refine WO.y rfl rfl (.on rfl rfl) (Yl.toStr un56 un5 un9 rfl (Reads.of (RdOf.own (v := .slice a44 (allB r).length c44) (e := 5) (cs := ints .u8 (allB r))) (by repeat (first | exact Take1.head | apply Take1.tail)))) rfl ?_ -- t45
      refine WD.one 25 (by kernel_rfl) ?_
      refine WO.callC (xs := [.tmp 46]) (cap := []) rfl (.on rfl rfl) rfl rfl en26 (by repeat (first | exact TakeL.nil | (apply TakeL.cons; · repeat (first | exact Take1.head | apply Take1.tail)))) (fun w hw => rbytesL_any _ r hG (by omega) w (hw.src (A := []) (RdOf.own (v := .slice a19 r.length c19)) (by repeat (first | exact Take1.head | apply Take1.tail))) hw.left.here) rfl (fun _ => ⟨_, (by repeat (first | exact TakeL.nil | (apply TakeL.cons; · repeat (first | exact Take1.head | apply Take1.tail))))⟩) ?_ -- t47 hailer/hailerref25.Bytes
      rintro ⟨a47, c47⟩ -
      dsimp only
      refine WD.one 26 (by kernel_rfl) ?_
      refine WO.y rfl rfl (.on rfl rfl) (Yl.toStr un56 un5 un9 rfl (Reads.of (RdOf.own (v := .slice a47 (allB r).length c47) (e := 5) (cs := ints .u8 (allB r))) (by repeat (first | exact Take1.head | apply Take1.tail)))) rfl ?_ -- t48
      refine WD.takeOn 27 rfl (by kernel_rfl) (by kernel_rfl) (by kernel_rfl) rfl rfl rfl rfl (Yl.sEq rfl rfl) rfl ?_ -- t49
      refine WD.know (t := 49) (b' := true) rfl (by simp) ?_
      refine WD.takeOn 28 rfl (by kernel_rfl) (by kernel_rfl) (by kernel_rfl) rfl rfl rfl rfl (Yl.pickT rfl rfl) rfl ?_ -- t50
      refine WD.takeOn 29 rfl (by kernel_rfl) (by kernel_rfl) (by kernel_rfl) rfl rfl rfl rfl (Yl.pickF rfl rfl) rfl ?_ -- t51
      refine WD.take 30 rfl (by kernel_rfl) (by kernel_rfl) (by kernel_rfl) rfl rfl (Yl.pickT rfl rfl) rfl ?_ -- t52
      refine WD.take 31 rfl (by kernel_rfl) (by kernel_rfl) (by kernel_rfl) rfl rfl (Yl.assign rfl) rfl ?_ -- t2
      refine WD.done (by kernel_rfl) ?_
      refine WC.ret ?_
      repeat (first | (with_reducible refine peelT ?_) | (with_reducible refine peelB ?_) | (with_reducible refine peelTX ?_) | (with_reducible refine peelBX ?_) | (with_reducible refine peelBN ?_) | (with_reducible refine peelBO rfl ?_))
      exact ret1 (.inr rfl) Try.results5 rfl fun w' h => ⟨(), trivial, rfl, h.sub (by repeat (first | exact TakeL.nil | (apply TakeL.cons; · repeat (first | exact Take1.head | apply Take1.tail))))⟩
    · refine WO.callC (xs := [.tmp 46]) (cap := []) rfl (.on rfl rfl) rfl rfl en26 (by repeat (first | exact TakeL.nil | (apply TakeL.cons; · repeat (first | exact Take1.head | apply Take1.tail)))) (fun w hw => rbytesL_any _ r hG (by omega) w (hw.src (A := []) (RdOf.own (v := .slice a19 r.length c19)) (by repeat (first | exact Take1.head | apply Take1.tail))) hw.left.here) rfl (fun _ => ⟨_, (by repeat (first | exact TakeL.nil | (apply TakeL.cons; · repeat (first | exact Take1.head | apply Take1.tail))))⟩) ?_ -- t47 hailer/hailerref25.Bytes
      rintro ⟨a47, c47⟩ -
      dsimp only
      refine WD.two 23 26 (by kernel_rfl) ?_ ?_
      · refine WO.y rfl rfl (.on rfl rfl) (Yl.toStr un56 un5 un9 rfl (Reads.of (RdOf.own (v := .slice a44 (allB r).length c44) (e := 5) (cs := ints .u8 (allB r))) (by repeat (first | exact Take1.head | apply Take1.tail)))) rfl ?_ -- t45
        refine WD.one 26 (by kernel_rfl) ?_
        refine WO.y rfl rfl (.on rfl rfl) (Yl.toStr un56 un5 un9 rfl (Reads.of (RdOf.own (v := .slice a47 (allB r).length c47) (e := 5) (cs := ints .u8 (allB r))) (by repeat (first | exact Take1.head | apply Take1.tail)))) rfl ?_ -- t48
        refine WD.takeOn 27 rfl (by kernel_rfl) (by kernel_rfl) (by kernel_rfl) rfl rfl rfl rfl (Yl.sEq rfl rfl) rfl ?_ -- t49
        refine WD.know (t := 49) (b' := true) rfl (by simp) ?_
        refine WD.takeOn 28 rfl (by kernel_rfl) (by kernel_rfl) (by kernel_rfl) rfl rfl rfl rfl (Yl.pickT rfl rfl) rfl ?_ -- t50
        refine WD.takeOn 29 rfl (by kernel_rfl) (by kernel_rfl) (by kernel_rfl) rfl rfl rfl rfl (Yl.pickF rfl rfl) rfl ?_ -- t51
        refine WD.take 30 rfl (by kernel_rfl) (by kernel_rfl) (by kernel_rfl) rfl rfl (Yl.pickT rfl rfl) rfl ?_ -- t52
        refine WD.take 31 rfl (by kernel_rfl) (by kernel_rfl) (by kernel_rfl) rfl rfl (Yl.assign rfl) rfl ?_ -- t2
        refine WD.done (by kernel_rfl) ?_
        refine WC.ret ?_
        repeat (first | (with_reducible refine peelT ?_) | (with_reducible refine peelB ?_) | (with_reducible refine peelTX ?_) | (with_reducible refine peelBX ?_) | (with_reducible refine peelBN ?_) | (with_reducible refine peelBO rfl ?_))
        exact ret1 (.inr rfl) Try.results5 rfl fun w' h => ⟨(), trivial, rfl, h.sub (by repeat (first | exact TakeL.nil | (apply TakeL.cons; · repeat (first | exact Take1.head | apply Take1.tail))))⟩
      · refine WO.y rfl rfl (.on rfl rfl) (Yl.toStr un56 un5 un9 rfl (Reads.of (RdOf.own (v := .slice a47 (allB r).length c47) (e := 5) (cs := ints .u8 (allB r))) (by repeat (first | exact Take1.head | apply Take1.tail)))) rfl ?_ -- t48
        refine WD.one 23 (by kernel_rfl) ?_
        refine WO.y rfl rfl (.on rfl rfl) (Yl.toStr un56 un5 un9 rfl (Reads.of (RdOf.own (v := .slice a44 (allB r).length c44) (e := 5) (cs := ints .u8 (allB r))) (by repeat (first | exact Take1.head | apply Take1.tail)))) rfl ?_ -- t45
        refine WD.takeOn 27 rfl (by kernel_rfl) (by kernel_rfl) (by kernel_rfl) rfl rfl rfl rfl (Yl.sEq rfl rfl) rfl ?_ -- t49
        refine WD.know (t := 49) (b' := true) rfl (by simp) ?_
        refine WD.takeOn 28 rfl (by kernel_rfl) (by kernel_rfl) (by kernel_rfl) rfl rfl rfl rfl (Yl.pickT rfl rfl) rfl ?_ -- t50
        refine WD.takeOn 29 rfl (by kernel_rfl) (by kernel_rfl) (by kernel_rfl) rfl rfl rfl rfl (Yl.pickF rfl rfl) rfl ?_ -- t51
        refine WD.take 30 rfl (by kernel_rfl) (by kernel_rfl) (by kernel_rfl) rfl rfl (Yl.pickT rfl rfl) rfl ?_ -- t52
        refine WD.take 31 rfl (by kernel_rfl) (by kernel_rfl) (by kernel_rfl) rfl rfl (Yl.assign rfl) rfl ?_ -- t2
        refine WD.done (by kernel_rfl) ?_
        refine WC.ret ?_
        repeat (first | (with_reducible refine peelT ?_) | (with_reducible refine peelB ?_) | (with_reducible refine peelTX ?_) | (with_reducible refine peelBX ?_) | (with_reducible refine peelBN ?_) | (with_reducible refine peelBO rfl ?_))
        exact ret1 (.inr rfl) Try.results5 rfl fun w' h => ⟨(), trivial, rfl, h.sub (by repeat (first | exact TakeL.nil | (apply TakeL.cons; · repeat (first | exact Take1.head | apply Take1.tail))))⟩
theorem logLoads_any (bs : List Int) (v : Value) (hB : Bytes bs) (w : World) (hw : OK w (fpL [rdR v 1 bs.length (ints .u8 bs)]) [rdR v 1 bs.length (ints .u8 bs)] w) :
    Fn Try.prog 5 [v] [rdR v 1 bs.length (ints .u8 bs)] w (fun _ : Unit => True) (fun _ => .bool true) (fun _ => []) := by
  cases hok : okL bs with
  | false => exact logLoads_no bs v hB hok w hw
  | true => exact logLoads_yes bs v hB hok w hw
end Go.Proofs.Ytpjgmiemamcdhaa
