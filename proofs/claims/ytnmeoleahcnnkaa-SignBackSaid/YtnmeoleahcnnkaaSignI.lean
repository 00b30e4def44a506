/- Signals: the laws' walks. -/
import Derived.Test.YtnmeoleahcnnkaaSignH
namespace Go.Proofs.Ytnmeoleahcnnkaa
open Go Go.RowKit

theorem stakeT_any (bs : List Int) (v : Value) (hB : Bytes bs) (hsz : bs.length ≤ 140737488355328) (w : World) (hx : RdS w (fpL []) v 1 bs.length (ints .u8 bs)) (hw : OK w (fpL []) [] w) :
    Fn Try.prog 9 [v] [] w (fun y : Res × Option Addr × Nat => RdOf y.1 (.slice y.2.1 (sigT bs).1.data.length y.2.2) 1 (sigT bs).1.data.length (ints .u8 (sigT bs).1.data))
      (fun y => .tuple #[.agg ({ (sigT bs).1 with da := y.2.1, dc := y.2.2 } : Sg).cells.toArray, .int .i64 (errT (sigT bs).2)]) (fun y => [y.1]) := by
  have := stake_any bs v hB hsz w hx hw
  rw [tkT_eq hB, okT_eq hB] at this
  exact this

def s4 : Sg := Sg.mk 4 (List.replicate 16 0) 0 0 0 zero32 0 none 0 [] 0
def b17 : List Int := 4 :: List.replicate 16 0
theorem s4_ok : s4.ok := ⟨by decide, rfl, zrep 16, by decide, by decide, by decide, zero32_ok.1, zero32_ok.2, by decide, (fun _ h => by cases h), by decide⟩
theorem putS_4 : putS s4 = b17 := by decide
theorem errS_4 : errS s4 = 0 := by decide
theorem sigT_4 : sigT b17 = (s4, true) := by
  have h1 : shp b17 = some s4 := by rfl
  exact sigT_ok h1 (by decide)
theorem b17_bytes : Bytes b17 := by
  intro x hx
  simp [b17] at hx
  omega

theorem sworks_any (w : World) (hw : OK w (fpL []) [] w) : Fn Try.prog 8 [] [] w (fun _ : Unit => True) (fun _ => .bool true) (fun _ => []) := by
  have hb17 : b17.length = 17 := rfl
  refine enterF Try.func8 rfl Try.ntmps8 rfl hw ?_
  refine WC.seq ?_
  refine WC.region ?_
  refine WL.y (Yl.assign rfl) rfl ?_ -- t0
  refine WL.nil ?_
  refine WC.seq ?_
  refine WC.region ?_
  refine WL.y (Yl.build rfl (cs := s4.cells) (fun _ => by kernel_rfl)) rfl ?_ -- t6
  refine WL.callC (xs := [.tmp 6]) (cap := []) rfl rfl en7 (by repeat (first | exact TakeL.nil | (apply TakeL.cons; · repeat (first | exact Take1.head | apply Take1.tail)))) (fun w hw => sput_any s4 s4_ok w RdS.nil8 hw.left.here) rfl ?_ -- t7 hailer/sign.Put
  rintro ⟨a7, c7⟩ hc7
  dsimp only at hc7 ⊢
  rw [putS_4, errS_4]
  rw [putS_4] at hc7
  refine WL.y (Yl.move rfl) rfl ?_ -- t5
  refine WL.y (Yl.extract rfl rfl) rfl ?_ -- t8
  refine WL.y (Yl.extract rfl rfl) rfl ?_ -- t9
  refine WL.y (Yl.assign rfl) rfl ?_ -- t1
  refine WL.y (Yl.assign rfl) rfl ?_ -- t2
  refine WL.nil ?_
  refine WC.seq ?_
  refine WC.region ?_
  refine WL.to (To.buildSlice (vs := [.int .u8 4]) un22 zs5 rfl rfl (by simp [Value.cells]) (by decide) (by decide)) rfl ?_ -- t11
  intro b11
  refine WL.view (fun w h => h.blkOwn (b := b11) (size := 1) (n := 1) (by repeat (first | exact Take1.head | apply Take1.tail)) (by unfold maxLen; omega) rfl) ?_
  refine WL.to (To.appendZ (m := 16) sl22 un3 rfl rfl (by repeat (first | exact Take1.head | apply Take1.tail)) (by omega) (by omega) (by omega) rfl (show [Value.int .u8 4] ++ (Builtin.zeroCells (Value.int .u8 0).cells 16).toList = ints .u8 b17 by kernel_rfl) (by unfold maxLen; omega) (by omega)) rfl ?_ -- t12
  rintro ⟨⟨ao12, c12⟩, hc12⟩
  dsimp only at hc12 ⊢
  refine WL.callC (xs := [.tmp 12]) (cap := []) rfl rfl en9 (by repeat (first | exact TakeL.nil | (apply TakeL.cons; · repeat (first | exact Take1.head | apply Take1.tail)))) (fun w hw => stakeT_any b17 (.slice ao12 17 c12) b17_bytes (by decide) w (hw.src (A := []) RdOf.own (by repeat (first | exact Take1.head | apply Take1.tail))) hw.left.here) rfl ?_ -- t13 hailer/sign.Take
  rintro ⟨r13, a13, c13⟩ hr13
  dsimp only at hr13 ⊢
  rw [sigT_4] at hr13 ⊢
  refine WL.y (Yl.move rfl) rfl ?_ -- t10
  refine WL.y (Yl.extract rfl rfl) rfl ?_ -- t14
  refine WL.y (Yl.extract rfl rfl) rfl ?_ -- t15
  refine WL.to (To.alloc (cs := Sg.zero.cells) zr34 rfl) rfl ?_ -- t3
  intro b3
  refine WL.sto (Sto.agg sz34 rfl rfl (by repeat (first | exact Take1.head | apply Take1.tail)) (Sg.ones _) rfl (by rfl) (Sg.all rfl _)) (fun _ h => nomatch h) ?_ -- st 1
  refine WL.y (Yl.assign rfl) rfl ?_ -- t4
  refine WL.nil ?_
  refine WC.seq ?_
  refine WC.region ?_
  refine WL.y (Yl.move rfl) rfl ?_ -- t16
  refine WL.y (Yl.eql rfl rfl) rfl ?_ -- t17
  refine WL.know (t := 17) (b' := true) rfl (by first | rfl | (simp; done) | (simp; omega)) ?_
  refine WL.y (Yl.move rfl) rfl ?_ -- t18
  refine WL.on rfl rfl ?_
  refine WL.y (Yl.move rfl) rfl ?_ -- t19
  refine WL.on rfl rfl ?_
  refine WL.y (Yl.len un22 rfl) rfl ?_ -- t20
  refine WL.on rfl rfl ?_
  refine WL.y (Yl.eql rfl rfl) rfl ?_ -- t21
  refine WL.know (t := 21) (b' := true) rfl (by first | rfl | (simp; done) | (simp; omega)) ?_
  refine WL.y (Yl.pickT rfl rfl) rfl ?_ -- t22
  refine WL.y (Yl.move rfl) rfl ?_ -- t23
  refine WL.on rfl rfl ?_
  refine WL.y (Yl.move rfl) rfl ?_ -- t24
  refine WL.on rfl rfl ?_
  refine WL.y (Yl.index (j := 0) un22 sz5 rfl rfl (Reads.of RdOf.own (by repeat (first | exact Take1.head | apply Take1.tail))) rfl (by omega)) rfl ?_ -- t25
  refine WL.on rfl rfl ?_
  refine WL.y (Yl.loadE on5 rfl (Reads.of RdOf.own (by repeat (first | exact Take1.head | apply Take1.tail))) (show _ = some (Value.int .u8 4) from rfl)) rfl ?_ -- t26
  refine WL.on rfl rfl ?_
  refine WL.y (Yl.eql rfl rfl) rfl ?_ -- t27
  refine WL.know (t := 27) (b' := true) rfl (by first | rfl | (simp; done) | (simp; omega)) ?_
  refine WL.y (Yl.pickT rfl rfl) rfl ?_ -- t28
  refine WL.y (Yl.move rfl) rfl ?_ -- t29
  refine WL.on rfl rfl ?_
  refine WL.y (Yl.move rfl) rfl ?_ -- t30
  refine WL.on rfl rfl ?_
  refine WL.y (Yl.eql rfl rfl) rfl ?_ -- t31
  refine WL.know (t := 31) (b' := true) rfl (by first | rfl | (simp; done) | (simp; omega)) ?_
  refine WL.y (Yl.pickT rfl rfl) rfl ?_ -- t32
  refine WL.y (Yl.move rfl) rfl ?_ -- t33
  refine WL.on rfl rfl ?_
  refine WL.y (Yl.field fo34_0 rfl) rfl ?_ -- t34
  refine WL.on rfl rfl ?_
  refine WL.y (Yl.load on5 rfl (by repeat (first | exact Take1.head | apply Take1.tail)) Sg.c0) rfl ?_ -- t35
  refine WL.on rfl rfl ?_
  refine WL.y (Yl.eql rfl rfl) rfl ?_ -- t36
  refine WL.know (t := 36) (b' := true) rfl (by first | rfl | (simp; done) | (simp; omega)) ?_
  refine WL.y (Yl.pickT rfl rfl) rfl ?_ -- t37
  refine WL.y (Yl.assign rfl) rfl ?_ -- t0
  refine WL.nil ?_
  refine WC.ret ?_
  repeat (first | (with_reducible refine peelT ?_) | (with_reducible refine peelB ?_) | (with_reducible refine peelTX ?_) | (with_reducible refine peelBX ?_) | (with_reducible refine peelBN ?_) | (with_reducible refine peelBO rfl ?_))
  exact ret1 (.inr rfl) Try.results8 rfl fun w' h => ⟨(), trivial, rfl, h.sub (by repeat (first | exact TakeL.nil | (apply TakeL.cons; · repeat (first | exact Take1.head | apply Take1.tail))))⟩

theorem putS_yes {s : Sg} (h : mayS s = true) : putS s = sigB s := by simp [putS, h]
theorem putS_no {s : Sg} (h : mayS s = false) : putS s = [] := by simp [putS, h]
theorem errS_yes {s : Sg} (h : mayS s = true) : errS s = 0 := by simp [errS, h]
theorem errS_no {s : Sg} (h : mayS s = false) : errS s = 2 := by simp [errS, h]

theorem signPuts_any (s : Sg) (hs : s.ok) (w : World) (hw : OK w (fpL [rdR (.slice s.da s.data.length s.dc) 1 s.data.length (ints .u8 s.data)]) [rdR (.slice s.da s.data.length s.dc) 1 s.data.length (ints .u8 s.data)] w) :
    Fn Try.prog 4 [.agg s.cells.toArray] [rdR (.slice s.da s.data.length s.dc) 1 s.data.length (ints .u8 s.data)] w (fun _ : Unit => True) (fun _ => .bool true) (fun _ => []) := by
  refine enterF Try.func4 rfl Try.ntmps4 rfl hw ?_
  refine WC.seq ?_
  refine WC.region ?_
  refine WL.to (To.box (cs := s.cells) rfl rfl) rfl ?_ -- t1
  intro b1
  refine WL.y (Yl.assign rfl) rfl ?_ -- t2
  refine WL.nil ?_
  refine WC.seq ?_
  refine WC.seq ?_
  refine WC.region ?_
  refine WL.y (Yl.field fo34_6 rfl) rfl ?_ -- t6
  refine WL.y (Yl.load on22 rfl (by repeat (first | exact Take1.head | apply Take1.tail)) (Sg.c53 hs)) rfl ?_ -- t7
  refine WL.y (Yl.len un22 rfl) rfl ?_ -- t8
  refine WL.y (Yl.gtr rfl rfl) rfl ?_ -- t9
  refine WL.nil ?_
  refine WC.condD rfl (fun g9 => ?_) (fun g9 => ?_)
  · refine WC.seq ?_
    refine WC.region ?_
    refine WL.callC (xs := []) (cap := []) rfl rfl en8 (by repeat (first | exact TakeL.nil | (apply TakeL.cons; · repeat (first | exact Take1.head | apply Take1.tail)))) (fun w hw => sworks_any w hw.left.here) rfl ?_ -- t10 hailer/hailerlaw09.works
    rintro ⟨⟩ -
    refine WL.y (Yl.assign rfl) rfl ?_ -- t2
    refine WL.nil ?_
    refine WC.ret ?_
    repeat (first | (with_reducible refine peelT ?_) | (with_reducible refine peelB ?_) | (with_reducible refine peelTX ?_) | (with_reducible refine peelBX ?_) | (with_reducible refine peelBN ?_) | (with_reducible refine peelBO rfl ?_))
    exact ret1 (.inr rfl) Try.results4 rfl fun w' h => ⟨(), trivial, rfl, h.sub (by repeat (first | exact TakeL.nil | (apply TakeL.cons; · repeat (first | exact Take1.head | apply Take1.tail))))⟩
  · refine WC.skip ?_
    refine WC.seq ?_
    refine WC.region ?_
    refine WL.y (Yl.loadN ag34 rfl (by repeat (first | exact Take1.head | apply Take1.tail)) (fitLe (by rw [Sg.len hs]; omega)) (Sg.call hs)) rfl ?_ -- t11
    refine WL.callC (xs := [.tmp 11]) (cap := []) rfl rfl en10 (by repeat (first | exact TakeL.nil | (apply TakeL.cons; · repeat (first | exact Take1.head | apply Take1.tail)))) (fun w hw => rsmay_any s hs w (hw.src (A := []) RdOf.rd' (by repeat (first | exact Take1.head | apply Take1.tail))) hw.left.here) rfl ?_ -- t12 hailer/hailerref09.May
    rintro ⟨⟩ -
    refine WL.y (Yl.assign rfl) rfl ?_ -- t3
    refine WL.nil ?_
    refine WC.seq ?_
    refine WC.region ?_
    refine WL.y (Yl.loadN ag34 rfl (by repeat (first | exact Take1.head | apply Take1.tail)) (fitLe (by rw [Sg.len hs]; omega)) (Sg.call hs)) rfl ?_ -- t14
    refine WL.callC (xs := [.tmp 14]) (cap := []) rfl rfl en7 (by repeat (first | exact TakeL.nil | (apply TakeL.cons; · repeat (first | exact Take1.head | apply Take1.tail)))) (fun w hw => sput_any s hs w (hw.src (A := []) RdOf.rd' (by repeat (first | exact Take1.head | apply Take1.tail))) hw.left.here) rfl ?_ -- t15 hailer/sign.Put
    rintro ⟨a15, c15⟩ hc15
    dsimp only at hc15 ⊢
    refine WL.y (Yl.move rfl) rfl ?_ -- t13
    refine WL.y (Yl.extract rfl rfl) rfl ?_ -- t16
    refine WL.y (Yl.extract rfl rfl) rfl ?_ -- t17
    refine WL.y (Yl.assign rfl) rfl ?_ -- t4
    refine WL.y (Yl.assign rfl) rfl ?_ -- t5
    refine WL.nil ?_
    refine WC.seq ?_
    refine WC.seq ?_
    refine WC.region ?_
    refine WL.y (Yl.loadN ag34 rfl (by repeat (first | exact Take1.head | apply Take1.tail)) (fitLe (by rw [Sg.len hs]; omega)) (Sg.call hs)) rfl ?_ -- t18
    refine WL.callC (xs := [.tmp 18]) (cap := []) rfl rfl en11 (by repeat (first | exact TakeL.nil | (apply TakeL.cons; · repeat (first | exact Take1.head | apply Take1.tail)))) (fun w hw => smay_any s hs w hw.left.here) rfl ?_ -- t19 hailer/sign.May
    rintro ⟨⟩ -
    refine WL.y (Yl.move rfl) rfl ?_ -- t20
    refine WL.y (Yl.bNe un4 rfl rfl) rfl ?_ -- t21
    refine WL.know (t := 21) (b' := false) rfl (by simp) ?_
    refine WL.nil ?_
    refine WC.condF rfl (by first | rfl | (simp; done) | (simp; omega)) ?_
    refine WC.skip ?_
    refine WC.seq ?_
    refine WC.seq ?_
    refine WC.region ?_
    refine WL.y (Yl.move rfl) rfl ?_ -- t22
    refine WL.y (Yl.not rfl) rfl ?_ -- t23
    refine WL.nil ?_
    refine WC.cond rfl (fun g23 => ?_) (fun g23 => ?_)
    · refine WC.seq ?_
      have hm := notT g23
      rw [putS_no hm, errS_no hm]
      refine WC.region ?_
      refine WL.y (Yl.move rfl) rfl ?_ -- t24
      refine WL.y (Yl.len un22 rfl) rfl ?_ -- t25
      refine WL.y (Yl.eql rfl rfl) rfl ?_ -- t26
      refine WL.know (t := 26) (b' := true) rfl (by first | rfl | (simp; done) | (simp; omega)) ?_
      refine WL.y (Yl.move rfl) rfl ?_ -- t27
      refine WL.on rfl rfl ?_
      refine WL.y (Yl.move rfl) rfl ?_ -- t28
      refine WL.on rfl rfl ?_
      refine WL.y (Yl.eql rfl rfl) rfl ?_ -- t29
      refine WL.know (t := 29) (b' := true) rfl (by first | rfl | (simp; done) | (simp; omega)) ?_
      refine WL.y (Yl.pickT rfl rfl) rfl ?_ -- t30
      refine WL.y (Yl.move rfl) rfl ?_ -- t31
      refine WL.on rfl rfl ?_
      refine WL.callC (xs := []) (cap := []) rfl rfl en8 (by repeat (first | exact TakeL.nil | (apply TakeL.cons; · repeat (first | exact Take1.head | apply Take1.tail)))) (fun w hw => sworks_any w hw.left.here) rfl ?_ -- t32 hailer/hailerlaw09.works
      rintro ⟨⟩ -
      refine WL.y (Yl.pickT rfl rfl) rfl ?_ -- t33
      refine WL.y (Yl.assign rfl) rfl ?_ -- t2
      refine WL.nil ?_
      refine WC.ret ?_
      repeat (first | (with_reducible refine peelT ?_) | (with_reducible refine peelB ?_) | (with_reducible refine peelTX ?_) | (with_reducible refine peelBX ?_) | (with_reducible refine peelBN ?_) | (with_reducible refine peelBO rfl ?_))
      exact ret1 (.inr rfl) Try.results4 rfl fun w' h => ⟨(), trivial, rfl, h.sub (by repeat (first | exact TakeL.nil | (apply TakeL.cons; · repeat (first | exact Take1.head | apply Take1.tail))))⟩
    · refine WC.skip ?_
      refine WC.seq ?_
      have hm := notF g23
      have hl := sigB_len hs
      rw [putS_yes hm, errS_yes hm]
      rw [putS_yes hm] at hc15
      refine WC.drawAny (Hs := [ownR (.slice a15 (sigB s).length c15) 5 1 (sigB s).length (ints .u8 (sigB s)), blkR b1 34 s.cells, rdR (.slice s.da s.data.length s.dc) 1 s.data.length (ints .u8 s.data)]) mixed (by kernel_rfl) ⟨_, (by repeat (first | exact TakeL.nil | (apply TakeL.cons; · repeat (first | exact Take1.head | apply Take1.tail))))⟩ ?_
      refine WD.take 0 rfl (by kernel_rfl) (by kernel_rfl) (by kernel_rfl) rfl rfl (Yl.move rfl) rfl ?_ -- t34
      refine WD.take 1 rfl (by kernel_rfl) (by kernel_rfl) (by kernel_rfl) rfl rfl (Yl.toStr un22 un5 un9 rfl (Reads.of RdOf.own (by repeat (first | exact Take1.head | apply Take1.tail)))) rfl ?_ -- t35
      refine WD.take 2 rfl (by kernel_rfl) (by kernel_rfl) (by kernel_rfl) rfl rfl (Yl.loadN ag34 rfl (by repeat (first | exact Take1.head | apply Take1.tail)) (fitLe (by rw [Sg.len hs]; omega)) (Sg.call hs)) rfl ?_ -- t36
      refine WD.one 3 (by kernel_rfl) ?_
      refine WO.callC (xs := [.tmp 36]) (cap := []) rfl .no rfl rfl en12 (by repeat (first | exact TakeL.nil | (apply TakeL.cons; · repeat (first | exact Take1.head | apply Take1.tail)))) (fun w hw => rsbytes_any s hs (by omega) w (hw.src (A := []) RdOf.rd' (by repeat (first | exact Take1.head | apply Take1.tail))) hw.left.here) rfl (fun _ => ⟨_, (by repeat (first | exact TakeL.nil | (apply TakeL.cons; · repeat (first | exact Take1.head | apply Take1.tail))))⟩) ?_ -- t37 hailer/hailerref09.Bytes
      rintro ⟨a37, c37⟩ -
      refine WD.one 4 (by kernel_rfl) ?_
      refine WO.y rfl rfl .no (Yl.toStr un22 un5 un9 rfl (Reads.of RdOf.own (by repeat (first | exact Take1.head | apply Take1.tail)))) rfl ?_ -- t38
      refine WD.take 5 rfl (by kernel_rfl) (by kernel_rfl) (by kernel_rfl) rfl rfl (Yl.sEq rfl rfl) rfl ?_ -- t39
      refine WD.know (t := 39) (b' := true) rfl (by simp) ?_
      refine WD.take 6 rfl (by kernel_rfl) (by kernel_rfl) (by kernel_rfl) rfl rfl (Yl.move rfl) rfl ?_ -- t40
      refine WD.takeOn 7 rfl (by kernel_rfl) (by kernel_rfl) (by kernel_rfl) rfl rfl rfl rfl (Yl.move rfl) rfl ?_ -- t41
      refine WD.takeOn 8 rfl (by kernel_rfl) (by kernel_rfl) (by kernel_rfl) rfl rfl rfl rfl (Yl.eql rfl rfl) rfl ?_ -- t42
      refine WD.know (t := 42) (b' := true) rfl (by first | rfl | (simp; done) | (simp; omega)) ?_
      refine WD.take 9 rfl (by kernel_rfl) (by kernel_rfl) (by kernel_rfl) rfl rfl (Yl.pickT rfl rfl) rfl ?_ -- t43
      refine WD.take 10 rfl (by kernel_rfl) (by kernel_rfl) (by kernel_rfl) rfl rfl (Yl.move rfl) rfl ?_ -- t44
      refine WD.one 11 (by kernel_rfl) ?_
      refine WO.callC (xs := []) (cap := []) rfl (.on rfl rfl) rfl rfl en8 (by repeat (first | exact TakeL.nil | (apply TakeL.cons; · repeat (first | exact Take1.head | apply Take1.tail)))) (fun w hw => sworks_any w hw.left.here) rfl (fun _ => ⟨_, (by repeat (first | exact TakeL.nil | (apply TakeL.cons; · repeat (first | exact Take1.head | apply Take1.tail))))⟩) ?_ -- t45 hailer/hailerlaw09.works
      rintro ⟨⟩ -
      refine WD.take 12 rfl (by kernel_rfl) (by kernel_rfl) (by kernel_rfl) rfl rfl (Yl.pickT rfl rfl) rfl ?_ -- t46
      refine WD.take 13 rfl (by kernel_rfl) (by kernel_rfl) (by kernel_rfl) rfl rfl (Yl.assign rfl) rfl ?_ -- t2
      refine WD.done (by kernel_rfl) ?_
      refine WC.ret ?_
      repeat (first | (with_reducible refine peelT ?_) | (with_reducible refine peelB ?_) | (with_reducible refine peelTX ?_) | (with_reducible refine peelBX ?_) | (with_reducible refine peelBN ?_) | (with_reducible refine peelBO rfl ?_))
      exact ret1 (.inr rfl) Try.results4 rfl fun w' h => ⟨(), trivial, rfl, h.sub (by repeat (first | exact TakeL.nil | (apply TakeL.cons; · repeat (first | exact Take1.head | apply Take1.tail))))⟩

theorem signTakes_any (bs : List Int) (v : Value) (hB : Bytes bs) (w : World) (hw : OK w (fpL [rdR v 1 bs.length (ints .u8 bs)]) [rdR v 1 bs.length (ints .u8 bs)] w) :
    Fn Try.prog 5 [v] [rdR v 1 bs.length (ints .u8 bs)] w (fun _ : Unit => True) (fun _ => .bool true) (fun _ => []) := by
  obtain ⟨al, cl, rfl, hcl, hml⟩ := (hw.get .head).form
  have hok := sigT_okS hB
  refine enterF Try.func5 rfl Try.ntmps5 rfl hw ?_
  refine WC.seq ?_
  refine WC.region ?_
  refine WL.y (Yl.assign rfl) rfl ?_ -- t2
  refine WL.nil ?_
  refine WC.seq ?_
  refine WC.seq ?_
  refine WC.region ?_
  refine WL.y (Yl.move rfl) rfl ?_ -- t9
  refine WL.y (Yl.len un22 rfl) rfl ?_ -- t10
  refine WL.y (Yl.gtr rfl rfl) rfl ?_ -- t11
  refine WL.nil ?_
  refine WC.condD rfl (fun g11 => ?_) (fun g11 => ?_)
  · refine WC.seq ?_
    refine WC.region ?_
    refine WL.callC (xs := []) (cap := []) rfl rfl en8 (by repeat (first | exact TakeL.nil | (apply TakeL.cons; · repeat (first | exact Take1.head | apply Take1.tail)))) (fun w hw => sworks_any w hw.left.here) rfl ?_ -- t12 hailer/hailerlaw09.works
    rintro ⟨⟩ -
    refine WL.y (Yl.assign rfl) rfl ?_ -- t2
    refine WL.nil ?_
    refine WC.ret ?_
    repeat (first | (with_reducible refine peelT ?_) | (with_reducible refine peelB ?_) | (with_reducible refine peelTX ?_) | (with_reducible refine peelBX ?_) | (with_reducible refine peelBN ?_) | (with_reducible refine peelBO rfl ?_))
    exact ret1 (.inr rfl) Try.results5 rfl fun w' h => ⟨(), trivial, rfl, h.sub (by repeat (first | exact TakeL.nil | (apply TakeL.cons; · repeat (first | exact Take1.head | apply Take1.tail))))⟩
  · refine WC.skip ?_
    refine WC.seq ?_
    refine WC.region ?_
    refine WL.to (To.buildSlice (vs := []) un22 zs5 rfl rfl (by simp [Value.cells]) (by decide) (by decide)) rfl ?_ -- t13
    intro b13
    refine WL.view (fun w h => h.blkOwn (b := b13) (size := 1) (n := 0) (by repeat (first | exact Take1.head | apply Take1.tail)) (by unfold maxLen; omega) rfl) ?_
    refine WL.y (Yl.move rfl) rfl ?_ -- t14
    refine WL.to (To.append sl22 rfl rfl (by repeat (first | exact Take1.head | apply Take1.tail)) (Reads.of RdOf.rd' (by repeat (first | exact Take1.head | apply Take1.tail))) (ints_one _ _) (Nat.zero_add _) (by rfl) (by unfold maxLen; omega) (by omega)) rfl ?_ -- t15
    rintro ⟨⟨ao15, c15⟩, hc15⟩
    dsimp only at hc15 ⊢
    refine WL.y (Yl.assign rfl) rfl ?_ -- t3
    refine WL.nil ?_
    refine WC.seq ?_
    refine WC.region ?_
    refine WL.y (Yl.move rfl) rfl ?_ -- t17
    refine WL.callC (xs := [.tmp 17]) (cap := []) rfl rfl en9 (by repeat (first | exact TakeL.nil | (apply TakeL.cons; · repeat (first | exact Take1.head | apply Take1.tail)))) (fun w hw => stakeT_any bs (.slice ao15 bs.length c15) hB (by omega) w (hw.src (A := []) RdOf.own (by repeat (first | exact Take1.head | apply Take1.tail))) hw.left.here) rfl ?_ -- t18 hailer/sign.Take
    rintro ⟨r, a18, c18⟩ hr18
    dsimp only at hr18 ⊢
    have hok1 : ({ (sigT bs).1 with da := a18, dc := c18 } : Sg).ok := ⟨hok.kind, hok.il, hok.ib, hok.ca, hok.cd, hok.ce, hok.kl, hok.kb, hok.n, hok.db, hok.rs⟩
    refine WL.y (Yl.move rfl) rfl ?_ -- t16
    refine WL.y (Yl.extract rfl rfl) rfl ?_ -- t19
    refine WL.y (Yl.extract rfl rfl) rfl ?_ -- t20
    refine WL.to (To.alloc (cs := Sg.zero.cells) zr34 rfl) rfl ?_ -- t4
    intro b4
    refine WL.sto (Sto.agg sz34 rfl rfl (by repeat (first | exact Take1.head | apply Take1.tail)) (Sg.ones _) (Sg.len hok1) (by rfl) (Sg.all rfl _)) (fun _ h => nomatch h) ?_ -- st 1
    refine WL.y (Yl.assign rfl) rfl ?_ -- t5
    refine WL.nil ?_
    refine WC.seq ?_
    refine WC.seq ?_
    refine WC.region ?_
    refine WL.y (Yl.move rfl) rfl ?_ -- t21
    refine WL.y (Yl.len un22 rfl) rfl ?_ -- t22
    refine WL.y (Yl.move rfl) rfl ?_ -- t23
    refine WL.nil ?_
    refine WC.block ?_
    refine WC.loop (α := Nat × List Int) (fun p => [(0, .slice al bs.length cl), (2, .bool false), (3, .slice ao15 bs.length c15), (4, .pointer (some ⟨b4, 0, none⟩)), (5, .int .i64 (errT (sigT bs).2)), (22, .int .i64 (bs.length : Int)), (23, .int .i64 (p.1 : Int))]) (fun p => [ownR (.slice ao15 bs.length c15) 5 1 bs.length (ints .u8 p.2), r, blkR b4 34 ({ (sigT bs).1 with da := a18, dc := c18 } : Sg).cells, rdR (.slice al bs.length cl) 1 bs.length (ints .u8 bs)]) (fun p => p.2.length = bs.length ∧ p.1 ≤ bs.length) (fun p => bs.length - p.1) (0, bs) ⟨rfl, Nat.zero_le _⟩ ⟨(by repeat (first | exact Sub.nil | refine Sub.cons rfl ?_)), _, (by repeat (first | exact TakeL.nil | (apply TakeL.cons; · repeat (first | exact Take1.head | apply Take1.tail))))⟩ ?_
    rintro ⟨j, xs⟩ ⟨hxl, hj⟩
    dsimp only at hxl hj ⊢
    refine WC.seq ?_
    refine WC.region ?_
    refine WL.y (Yl.lss rfl rfl) rfl ?_ -- t24
    refine WL.nil ?_
    refine WC.seq ?_
    refine WC.condD rfl (fun g24 => ?_) (fun g24 => ?_)
    · refine WC.skip ?_
      refine WC.seq ?_
      refine WC.block ?_
      refine WC.seq ?_
      refine WC.region ?_
      refine WL.y (Yl.move rfl) rfl ?_ -- t25
      refine WL.y (Yl.assign rfl) rfl ?_ -- t6
      refine WL.nil ?_
      refine WC.region ?_
      refine WL.y (Yl.move rfl) rfl ?_ -- t26
      refine WL.y (Yl.move rfl) rfl ?_ -- t27
      refine WL.y (Yl.index un22 sz5 rfl rfl (Reads.own (by repeat (first | exact Take1.head | apply Take1.tail))) rfl (by omega)) rfl ?_ -- t28
      refine WL.y (Yl.loadE on5 rfl (Reads.own (by repeat (first | exact Take1.head | apply Take1.tail))) (ints_get .u8 xs j (by omega))) rfl ?_ -- t29
      refine WL.y (Yl.xor rfl rfl) rfl ?_ -- t30
      refine WL.y (Yl.index un22 sz5 rfl rfl (Reads.own (by repeat (first | exact Take1.head | apply Take1.tail))) rfl (by omega)) rfl ?_ -- t31
      refine WL.sto (Sto.elem sz5 rfl rfl (by repeat (first | exact Take1.head | apply Take1.tail)) rfl (by omega) (cs' := ints .u8 (xs.set j _)) (by unfold ints; rw [List.map_set])) (fun _ h => nomatch h) ?_
      refine WL.nil ?_
      refine WC.region ?_
      refine WL.y (Yl.add rfl rfl (IntWalk.i64_in _ (by omega))) rfl ?_ -- t32
      refine WL.y (Yl.move rfl) rfl ?_ -- t23
      refine WL.nil ?_
      exact ⟨rfl, (j + 1, xs.set j (bits .xor .u8 (xs.getD j 0) 255)), ⟨by simp [hxl], by dsimp only; omega⟩, by dsimp only; omega, (by repeat (first | exact Sub.nil | refine Sub.cons rfl ?_)), _, (by repeat (first | exact TakeL.nil | (apply TakeL.cons; · repeat (first | exact Take1.head | apply Take1.tail))))⟩
    · refine WC.exit ?_
      refine WC.seq ?_
      refine WC.region ?_
      refine WL.y (Yl.move rfl) rfl ?_ -- t34
      refine WL.callC (xs := [.tmp 34]) (cap := []) rfl rfl en13 (by repeat (first | exact TakeL.nil | (apply TakeL.cons; · repeat (first | exact Take1.head | apply Take1.tail)))) (fun w hw => rstake_any bs (.slice al bs.length cl) hB (by omega) w (hw.src (A := []) RdOf.rd' (by repeat (first | exact Take1.head | apply Take1.tail))) hw.left.here) rfl ?_ -- t35 hailer/hailerref09.Take
      rintro ⟨a35, c35⟩ -
      dsimp only
      have hok2 : ({ (sigT bs).1 with da := a35, dc := c35 } : Sg).ok := ⟨hok.kind, hok.il, hok.ib, hok.ca, hok.cd, hok.ce, hok.kl, hok.kb, hok.n, hok.db, hok.rs⟩
      refine WL.y (Yl.move rfl) rfl ?_ -- t33
      refine WL.y (Yl.extract rfl rfl) rfl ?_ -- t36
      refine WL.y (Yl.extract rfl rfl) rfl ?_ -- t37
      refine WL.to (To.alloc (cs := Sg.zero.cells) zr34 rfl) rfl ?_ -- t7
      intro b7
      refine WL.sto (Sto.agg sz34 rfl rfl (by repeat (first | exact Take1.head | apply Take1.tail)) (Sg.ones _) (Sg.len hok2) (by rfl) (Sg.all rfl _)) (fun _ h => nomatch h) ?_ -- st 3
      refine WL.y (Yl.assign rfl) rfl ?_ -- t8
      refine WL.nil ?_
      refine WC.seq ?_
      refine WC.region ?_
      refine WL.y (Yl.loadN ag34 rfl (by repeat (first | exact Take1.head | apply Take1.tail)) (fitLe (by rw [Sg.len hok1]; omega)) (Sg.call hok1)) rfl ?_ -- t38
      refine WL.y (Yl.loadN ag34 rfl (by repeat (first | exact Take1.head | apply Take1.tail)) (fitLe (by rw [Sg.len hok2]; omega)) (Sg.call hok2)) rfl ?_ -- t39
      refine WL.callC (xs := [.tmp 38, .tmp 39]) (cap := []) rfl rfl en14 (by repeat (first | exact TakeL.nil | (apply TakeL.cons; · repeat (first | exact Take1.head | apply Take1.tail)))) (fun w hw => same_any _ _ hok1 hok2 w (hw.src (A := []) hr18 (by repeat (first | exact Take1.head | apply Take1.tail))) (hw.src (A := []) RdOf.own (by repeat (first | exact Take1.head | apply Take1.tail))) hw.left.here) rfl ?_ -- t40 hailer/hailerref09.Same
      rintro ⟨⟩ -
      refine WL.know (t := 40) (b' := true) rfl (sameS_iff.2 rfl) ?_
      refine WL.y (Yl.move rfl) rfl ?_ -- t41
      refine WL.on rfl rfl ?_
      refine WL.y (Yl.move rfl) rfl ?_ -- t42
      refine WL.on rfl rfl ?_
      refine WL.y (Yl.eql rfl rfl) rfl ?_ -- t43
      refine WL.on rfl rfl ?_
      refine WL.y (Yl.move rfl) rfl ?_ -- t44
      refine WL.on rfl rfl ?_
      refine WL.y (Yl.bEq un4 rfl rfl) rfl ?_ -- t45
      refine WL.know (t := 45) (b' := true) rfl (by cases (sigT bs).2 <;> rfl) ?_
      refine WL.y (Yl.pickT rfl rfl) rfl ?_ -- t46
      refine WL.y (Yl.move rfl) rfl ?_ -- t47
      refine WL.on rfl rfl ?_
      refine WL.y (Yl.move rfl) rfl ?_ -- t48
      refine WL.on rfl rfl ?_
      refine WL.y (Yl.move rfl) rfl ?_ -- t49
      refine WL.both (t := 49) rfl (fun g49 => ?_) (fun g49 => ?_)
      · refine WL.off rfl rfl rfl rfl ?_ -- t50
        refine WL.off rfl rfl rfl rfl ?_ -- t51
        refine WL.on rfl rfl ?_
        refine WL.y (Yl.pickT rfl rfl) rfl ?_ -- t52
        refine WL.y (Yl.pickT rfl rfl) rfl ?_ -- t53
        refine WL.y (Yl.move rfl) rfl ?_ -- t54
        refine WL.on rfl rfl ?_
        refine WL.callC (xs := []) (cap := []) rfl rfl en8 (by repeat (first | exact TakeL.nil | (apply TakeL.cons; · repeat (first | exact Take1.head | apply Take1.tail)))) (fun w hw => sworks_any w hw.left.here) rfl ?_ -- t55 hailer/hailerlaw09.works
        rintro ⟨⟩ -
        refine WL.y (Yl.pickT rfl rfl) rfl ?_ -- t56
        refine WL.y (Yl.assign rfl) rfl ?_ -- t2
        refine WL.nil ?_
        refine WC.ret ?_
        repeat (first | (with_reducible refine peelT ?_) | (with_reducible refine peelB ?_) | (with_reducible refine peelTX ?_) | (with_reducible refine peelBX ?_) | (with_reducible refine peelBN ?_) | (with_reducible refine peelBO rfl ?_))
        exact ret1 (.inr rfl) Try.results5 rfl fun w' h => ⟨(), trivial, rfl, h.sub (by repeat (first | exact TakeL.nil | (apply TakeL.cons; · repeat (first | exact Take1.head | apply Take1.tail))))⟩
      · refine WL.on rfl rfl ?_
        refine WL.y (Yl.move rfl) rfl ?_ -- t50
        refine WL.on rfl rfl ?_
        refine WL.y (Yl.eql rfl rfl) rfl ?_ -- t51
        refine WL.know (t := 51) (b' := true) rfl (by rw [g49]; rfl) ?_
        refine WL.on rfl rfl ?_
        refine WL.y (Yl.pickF rfl rfl) rfl ?_ -- t52
        refine WL.y (Yl.pickT rfl rfl) rfl ?_ -- t53
        refine WL.y (Yl.move rfl) rfl ?_ -- t54
        refine WL.on rfl rfl ?_
        refine WL.callC (xs := []) (cap := []) rfl rfl en8 (by repeat (first | exact TakeL.nil | (apply TakeL.cons; · repeat (first | exact Take1.head | apply Take1.tail)))) (fun w hw => sworks_any w hw.left.here) rfl ?_ -- t55 hailer/hailerlaw09.works
        rintro ⟨⟩ -
        refine WL.y (Yl.pickT rfl rfl) rfl ?_ -- t56
        refine WL.y (Yl.assign rfl) rfl ?_ -- t2
        refine WL.nil ?_
        refine WC.ret ?_
        repeat (first | (with_reducible refine peelT ?_) | (with_reducible refine peelB ?_) | (with_reducible refine peelTX ?_) | (with_reducible refine peelBX ?_) | (with_reducible refine peelBN ?_) | (with_reducible refine peelBO rfl ?_))
        exact ret1 (.inr rfl) Try.results5 rfl fun w' h => ⟨(), trivial, rfl, h.sub (by repeat (first | exact TakeL.nil | (apply TakeL.cons; · repeat (first | exact Take1.head | apply Take1.tail))))⟩
def s5 : Sg := Sg.mk 5 (List.replicate 16 0) 0 0 0 zero32 0 none 0 [] 0
def s4k : Sg := Sg.mk 4 (List.replicate 16 0) 0 0 0 (1 :: List.replicate 31 0) 0 none 0 [] 0
def s3 (b : Nat) : Sg := Sg.mk 3 (List.replicate 16 0) 0 0 0 zero32 0 (some ⟨b, 0, none⟩) 1 [120] 0
theorem s5_ok : s5.ok := ⟨by decide, rfl, zrep 16, by decide, by decide, by decide, zero32_ok.1, zero32_ok.2, by decide, (fun _ h => by cases h), by decide⟩
theorem s4k_ok : s4k.ok := ⟨by decide, rfl, zrep 16, by decide, by decide, by decide, rfl, (by intro x h; simp [s4k] at h; omega), by decide, (fun _ h => by cases h), by decide⟩
theorem z8 : 0 ≤ (0 : Int) ∧ (0 : Int) < 256 := by decide
theorem s3_ok (b : Nat) : (s3 b).ok := ⟨(show (0 : Int) ≤ 3 ∧ (3 : Int) < 256 by decide), rfl, zrep 16, z8, z8, z8, zero32_ok.1, zero32_ok.2, (show (0 : Int) ≤ 0 ∧ (0 : Int) < 4294967296 by decide), (by intro x h; simp [s3] at h; omega), z8⟩
theorem s3_may (b : Nat) : mayS (s3 b) = true := (show mayS (s3 0).norm = true by decide)
theorem sigB_bytes {s : Sg} (h : s.ok) : Bytes (sigB s) := by
  have a1 : ∀ n, 0 ≤ n ∧ n < 256 → Bytes [n] := fun n hn x hx => by simp at hx; subst hx; exact hn
  have hP : Bytes (sigP s) := by
    unfold sigP
    split
    · exact Bytes.app (fun x hx => by simp at hx; rcases hx with rfl | rfl | rfl <;> first | exact h.ca | exact h.cd | exact h.ce) h.kb
    split
    · exact h.kb
    split
    · exact ((Bytes.be _ _).app (Bytes.be _ _)).app h.db
    split
    · exact a1 _ h.rs
    · exact fun x hx => by cases hx
  exact ((a1 _ h.kind).app h.ib).app hP
theorem signKnown_any (w : World) (hw : OK w (fpL []) [] w) : Fn Try.prog 3 [] [] w (fun _ : Unit => True) (fun _ => .bool true) (fun _ => []) := by
  refine enterF Try.func3 rfl Try.ntmps3 rfl hw ?_
  refine WC.seq ?_
  refine WC.region ?_
  refine WL.y (Yl.assign rfl) rfl ?_ -- t0
  refine WL.nil ?_
  refine WC.seq ?_
  refine WC.region ?_
  refine WL.y (Yl.build rfl (cs := s5.cells) (fun _ => by kernel_rfl)) rfl ?_ -- t10
  refine WL.callC (xs := [.tmp 10]) (cap := []) rfl rfl en7 (by repeat (first | exact TakeL.nil | (apply TakeL.cons; · repeat (first | exact Take1.head | apply Take1.tail)))) (fun w hw => sput_any s5 s5_ok w RdS.nil8 hw.left.here) rfl ?_ -- t11 hailer/sign.Put
  rintro ⟨a11, c11⟩ -
  dsimp only
  rw [show putS s5 = [] by decide, show errS s5 = 2 by decide]
  refine WL.y (Yl.move rfl) rfl ?_ -- t9
  refine WL.y (Yl.extract rfl rfl) rfl ?_ -- t12
  refine WL.y (Yl.extract rfl rfl) rfl ?_ -- t13
  refine WL.y (Yl.assign rfl) rfl ?_ -- t1
  refine WL.y (Yl.assign rfl) rfl ?_ -- t2
  refine WL.nil ?_
  refine WC.seq ?_
  refine WC.region ?_
  refine WL.y (Yl.build rfl (cs := ints .u8 s4k.key) (fun _ => by kernel_rfl)) rfl ?_ -- t15
  refine WL.y (Yl.build rfl (cs := s4k.cells) (fun _ => by kernel_rfl)) rfl ?_ -- t16
  refine WL.callC (xs := [.tmp 16]) (cap := []) rfl rfl en7 (by repeat (first | exact TakeL.nil | (apply TakeL.cons; · repeat (first | exact Take1.head | apply Take1.tail)))) (fun w hw => sput_any s4k s4k_ok w RdS.nil8 hw.left.here) rfl ?_ -- t17 hailer/sign.Put
  rintro ⟨a17, c17⟩ -
  dsimp only
  rw [show putS s4k = [] by decide, show errS s4k = 2 by decide]
  refine WL.y (Yl.move rfl) rfl ?_ -- t14
  refine WL.y (Yl.extract rfl rfl) rfl ?_ -- t18
  refine WL.y (Yl.extract rfl rfl) rfl ?_ -- t19
  refine WL.y (Yl.assign rfl) rfl ?_ -- t3
  refine WL.y (Yl.assign rfl) rfl ?_ -- t4
  refine WL.nil ?_
  refine WC.seq ?_
  refine WC.region ?_
  refine WL.to (To.buildSlice (vs := [.int .u8 120]) un22 zs5 rfl rfl (by simp [Value.cells]) (by decide) (by decide)) rfl ?_ -- t21
  intro b21
  refine WL.to (To.convMark un22 un5 rfl (by repeat (first | exact Take1.head | apply Take1.tail)) rfl (by decide)) rfl ?_ -- t22
  rintro ⟨⟩
  refine WL.y (Yl.build rfl (cs := (s3 b21).cells) (fun _ => by kernel_rfl)) rfl ?_ -- t23
  refine WL.callC (xs := [.tmp 23]) (cap := []) rfl rfl en7 (by repeat (first | exact TakeL.nil | (apply TakeL.cons; · repeat (first | exact Take1.head | apply Take1.tail)))) (fun w hw => sput_any (s3 b21) (s3_ok b21) w (hw.src (A := []) (show RdOf _ (.slice (some ⟨b21, 0, none⟩) 1 1) 1 1 (ints .u8 [120]) from RdOf.rd') (by repeat (first | exact Take1.head | apply Take1.tail))) hw.left.here) rfl ?_ -- t24 hailer/sign.Put
  rintro ⟨a24, c24⟩ hc24
  dsimp only at hc24 ⊢
  rw [putS_yes (s3_may b21)] at hc24 ⊢
  rw [errS_yes (s3_may b21)]
  obtain ⟨B, hB⟩ : ∃ B, sigB (s3 b21) = B := ⟨_, rfl⟩
  have hBl : B.length = 24 := by rw [← hB, (sigB_3 (s3_ok b21) rfl).1]; rfl
  have hBb : Bytes B := hB ▸ sigB_bytes (s3_ok b21)
  have hBt : (sigT B).2 = true := by rw [← hB, sigT_B (s3_ok b21) (s3_may b21)]
  rw [hB] at hc24 ⊢
  refine WL.y (Yl.move rfl) rfl ?_ -- t20
  refine WL.y (Yl.extract rfl rfl) rfl ?_ -- t25
  refine WL.y (Yl.extract rfl rfl) rfl ?_ -- t26
  refine WL.y (Yl.assign rfl) rfl ?_ -- t5
  refine WL.y (Yl.assign rfl) rfl ?_ -- t6
  refine WL.nil ?_
  refine WC.seq ?_
  refine WC.seq ?_
  refine WC.region ?_
  refine WL.callC (xs := []) (cap := []) rfl rfl en8 (by repeat (first | exact TakeL.nil | (apply TakeL.cons; · repeat (first | exact Take1.head | apply Take1.tail)))) (fun w hw => sworks_any w hw.left.here) rfl ?_ -- t27 hailer/hailerlaw09.works
  rintro ⟨⟩ -
  refine WL.y (Yl.not rfl) rfl ?_ -- t28
  refine WL.know (t := 28) (b' := false) rfl (by first | rfl | (simp; done) | (simp; omega)) ?_
  refine WL.y (Yl.move rfl) rfl ?_ -- t29
  refine WL.on rfl rfl ?_
  refine WL.y (Yl.move rfl) rfl ?_ -- t30
  refine WL.on rfl rfl ?_
  refine WL.y (Yl.neq rfl rfl) rfl ?_ -- t31
  refine WL.know (t := 31) (b' := false) rfl (by first | rfl | (simp; done) | (simp; omega)) ?_
  refine WL.y (Yl.pickF rfl rfl) rfl ?_ -- t32
  refine WL.y (Yl.move rfl) rfl ?_ -- t33
  refine WL.on rfl rfl ?_
  refine WL.y (Yl.move rfl) rfl ?_ -- t34
  refine WL.on rfl rfl ?_
  refine WL.y (Yl.neq rfl rfl) rfl ?_ -- t35
  refine WL.know (t := 35) (b' := false) rfl (by first | rfl | (simp; done) | (simp; omega)) ?_
  refine WL.y (Yl.pickF rfl rfl) rfl ?_ -- t36
  refine WL.y (Yl.move rfl) rfl ?_ -- t37
  refine WL.on rfl rfl ?_
  refine WL.y (Yl.move rfl) rfl ?_ -- t38
  refine WL.on rfl rfl ?_
  refine WL.y (Yl.neq rfl rfl) rfl ?_ -- t39
  refine WL.know (t := 39) (b' := false) rfl (by first | rfl | (simp; done) | (simp; omega)) ?_
  refine WL.y (Yl.pickF rfl rfl) rfl ?_ -- t40
  refine WL.y (Yl.move rfl) rfl ?_ -- t41
  refine WL.on rfl rfl ?_
  refine WL.y (Yl.move rfl) rfl ?_ -- t42
  refine WL.on rfl rfl ?_
  refine WL.y (Yl.len un22 rfl) rfl ?_ -- t43
  refine WL.on rfl rfl ?_
  refine WL.y (Yl.neq rfl rfl) rfl ?_ -- t44
  refine WL.know (t := 44) (b' := false) rfl (by simp [hBl]) ?_
  refine WL.y (Yl.pickF rfl rfl) rfl ?_ -- t45
  refine WL.nil ?_
  refine WC.condF rfl (by first | rfl | (simp; done) | (simp; omega)) ?_
  refine WC.skip ?_
  refine WC.seq ?_
  refine WC.region ?_
  refine WL.y (Yl.move rfl) rfl ?_ -- t47
  refine WL.y (Yl.slice (h := 21) un22 sz5 rfl rfl ⟨_, rfl⟩ (by omega) (by omega)) rfl ?_
  refine WL.callC (xs := [.tmp 48]) (cap := []) rfl rfl en9 (by repeat (first | exact TakeL.nil | (apply TakeL.cons; · repeat (first | exact Take1.head | apply Take1.tail)))) (fun w hw => stakeT_any ((B.drop 0).take (21 - 0)) _ ((hBb.drop 0).take _) (by simp; omega) w ((hw.src (A := []) RdOf.own (by repeat (first | exact Take1.head | apply Take1.tail))).sub8 (l := 0) (h := 21) (by omega)) hw.left.here) rfl ?_ -- t49 hailer/sign.Take
  rintro ⟨r49, a49, c49⟩ -
  have hcut : (sigT ((B.drop 0).take (21 - 0))).2 = false := sigT_cut hBt (m := 21) (by omega)
  have hB0 : Bytes ((B.drop 0).take (21 - 0)) := (hBb.drop 0).take _
  obtain ⟨B0, hB0e⟩ : ∃ B0, (B.drop 0).take (21 - 0) = B0 := ⟨_, rfl⟩
  rw [hB0e] at hcut hB0 ⊢
  have hok := sigT_okS hB0
  have hok1 : ({ (sigT B0).1 with da := a49, dc := c49 } : Sg).ok := ⟨hok.kind, hok.il, hok.ib, hok.ca, hok.cd, hok.ce, hok.kl, hok.kb, hok.n, hok.db, hok.rs⟩
  dsimp only
  rw [hcut]
  refine WL.y (Yl.move rfl) rfl ?_ -- t46
  refine WL.y (Yl.extract rfl rfl) rfl ?_ -- t50
  refine WL.y (Yl.extract rfl rfl) rfl ?_ -- t51
  refine WL.to (To.alloc (cs := Sg.zero.cells) zr34 rfl) rfl ?_ -- t7
  intro b7
  refine WL.sto (Sto.agg sz34 rfl rfl (by repeat (first | exact Take1.head | apply Take1.tail)) (Sg.ones _) (Sg.len hok1) (by rfl) (Sg.all rfl _)) (fun _ h => nomatch h) ?_ -- st 1
  refine WL.y (Yl.assign rfl) rfl ?_ -- t8
  refine WL.nil ?_
  refine WC.seq ?_
  refine WC.region ?_
  refine WL.y (Yl.move rfl) rfl ?_ -- t52
  refine WL.y (Yl.eql rfl rfl) rfl ?_ -- t53
  refine WL.know (t := 53) (b' := true) rfl (by first | rfl | (simp; done) | (simp; omega)) ?_
  refine WL.y (Yl.assign rfl) rfl ?_ -- t0
  refine WL.nil ?_
  refine WC.ret ?_
  repeat (first | (with_reducible refine peelT ?_) | (with_reducible refine peelB ?_) | (with_reducible refine peelTX ?_) | (with_reducible refine peelBX ?_) | (with_reducible refine peelBN ?_) | (with_reducible refine peelBO rfl ?_))
  exact ret1 (.inr rfl) Try.results3 rfl fun w' h => ⟨(), trivial, rfl, h.sub (by repeat (first | exact TakeL.nil | (apply TakeL.cons; · repeat (first | exact Take1.head | apply Take1.tail))))⟩
end Go.Proofs.Ytnmeoleahcnnkaa
