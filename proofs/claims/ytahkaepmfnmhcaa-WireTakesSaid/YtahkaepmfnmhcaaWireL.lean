/- WirePuts: the walk. -/
import Derived.Test.YtahkaepmfnmhcaaWireK
namespace Go.Proofs.Ytahkaepmfnmhcaa
open Go Go.RowKit

theorem wirePuts_any (lim : Int) (hlo : -9223372036854775808 ≤ lim ∧ lim ≤ 9223372036854775807) (fs : List Fd) (v : Value) (r : Res) (hF : FdOf r v fs) (hok : ∀ f ∈ fs, f.ok) (hsz : ∀ f ∈ fs, f.b.length ≤ 140737488355328 ∧ f.l.length ≤ 140737488355328) (w : World) (hw : OK w (fpL [r]) [r] w) :
    Fn Try.prog 3 [.int .i64 lim, v] [r] w (fun _ : Unit => True) (fun _ => .bool true) (fun _ => []) := by
  refine enterF Try.func3 rfl Try.ntmps3 rfl hw ?_
  refine WC.seq ?_
  refine WC.region ?_
  refine WL.y (Yl.assign rfl) rfl ?_ -- t4
  refine WL.nil ?_
  refine WC.seq ?_
  refine WC.seq ?_
  refine WC.region ?_
  refine WL.callC (xs := []) (cap := []) rfl rfl en6 (by repeat (first | exact TakeL.nil | (apply TakeL.cons; · repeat (first | exact Take1.head | apply Take1.tail)))) (fun w hw => wknown_any w hw.left.here) rfl ?_ -- t10 hailer/hailerlaw08.known
  rintro ⟨⟩ -
  refine WL.y (Yl.not rfl) rfl ?_ -- t11
  refine WL.nil ?_
  refine WC.condF rfl (by first | rfl | (simp; done) | (simp; omega)) ?_
  refine WC.skip ?_
  refine WC.seq ?_
  refine WC.seq ?_
  refine WC.region ?_
  refine WL.y (Yl.move rfl) rfl ?_ -- t12
  refine WL.callC (xs := [.tmp 12]) (cap := []) rfl rfl en7 (by repeat (first | exact TakeL.nil | (apply TakeL.cons; · repeat (first | exact Take1.head | apply Take1.tail)))) (fun w hw => great_any fs v hsz w (hw.srcF (A := []) hF (by repeat (first | exact Take1.head | apply Take1.tail))) hw.left.here) rfl ?_ -- t13 hailer/hailerref08.Great
  rintro ⟨⟩ -
  refine WL.nil ?_
  refine WC.condD rfl (fun g13 => ?_) (fun g13 => ?_)
  · refine WC.seq ?_
    refine WC.region ?_
    refine WL.y (Yl.assign rfl) rfl ?_ -- t4
    refine WL.nil ?_
    refine WC.ret ?_
    repeat (first | (with_reducible refine peelT ?_) | (with_reducible refine peelB ?_) | (with_reducible refine peelTX ?_) | (with_reducible refine peelBX ?_) | (with_reducible refine peelBN ?_) | (with_reducible refine peelBO rfl ?_))
    exact ret1 (.inr rfl) Try.results3 rfl fun w' h => ⟨(), trivial, rfl, h.sub (by repeat (first | exact TakeL.nil | (apply TakeL.cons; · repeat (first | exact Take1.head | apply Take1.tail))))⟩
  · refine WC.skip ?_
    refine WC.seq ?_
    have hwt : wts fs ≤ 3000 := by omega
    have hzs := szs_wts fs
    have hpl := puts_len (lim := lim) fs ([], false)
    have hpl2 : (puts lim ([], false) fs).1.length ≤ 54000 := by dsimp only [List.length] at hpl; omega
    obtain ⟨ho1, ho2⟩ := puts_out (lim := lim) fs
    refine WC.region ?_
    refine WL.y (Yl.move rfl) rfl ?_ -- t14
    refine WL.callC (xs := [.tmp 14]) (cap := []) rfl rfl en8 (by repeat (first | exact TakeL.nil | (apply TakeL.cons; · repeat (first | exact Take1.head | apply Take1.tail)))) (fun w hw => newOut_any lim w hw.left.here) rfl ?_ -- t15 hailer/wire.NewOut
    intro b15 _
    refine WL.y (Yl.assign rfl) rfl ?_ -- t5
    refine WL.nil ?_
    refine WC.seq ?_
    refine WC.region ?_
    refine WL.y (Yl.move rfl) rfl ?_ -- t16
    refine WL.y (Yl.move rfl) rfl ?_ -- t17
    refine WL.callC (xs := [.tmp 16, .tmp 17]) (cap := []) rfl rfl en9 (by repeat (first | exact TakeL.nil | (apply TakeL.cons; · repeat (first | exact Take1.head | apply Take1.tail)))) (fun w hw => lput_any fs v b15 (none, 0) lim [] false hok hlo (.inl rfl) (by simp; omega) w (hw.srcF hF (by repeat (first | exact Take1.head | apply Take1.tail))) hw.left.here) rfl ?_ -- t18 hailer/hailerlaw08.put
    intro y18 _
    refine WL.nil ?_
    refine WC.seq ?_
    refine WC.region ?_
    refine WL.y (Yl.move rfl) rfl ?_ -- t20
    refine WL.callC (xs := [.tmp 20]) (cap := []) rfl rfl en10 (by repeat (first | exact TakeL.nil | (apply TakeL.cons; · repeat (first | exact Take1.head | apply Take1.tail)))) (fun w hw => outBytes_all b15 y18 lim (puts lim ([], false) fs).1 (puts lim ([], false) fs).2 (by omega) w hw.left.here) rfl ?_ -- t21 (*hailer/wire.Out).Bytes
    rintro ⟨a21, c21⟩ -
    dsimp only
    rw [ho1]
    refine WL.y (Yl.move rfl) rfl ?_ -- t19
    refine WL.y (Yl.extract rfl rfl) rfl ?_ -- t22
    refine WL.y (Yl.extract rfl rfl) rfl ?_ -- t23
    refine WL.y (Yl.assign rfl) rfl ?_ -- t6
    refine WL.y (Yl.assign rfl) rfl ?_ -- t7
    refine WL.nil ?_
    refine WC.seq ?_
    refine WC.region ?_
    refine WL.y (Yl.move rfl) rfl ?_ -- t25
    refine WL.y (Yl.move rfl) rfl ?_ -- t26
    refine WL.callC (xs := [.tmp 25, .tmp 26]) (cap := []) rfl rfl en11 (by repeat (first | exact TakeL.nil | (apply TakeL.cons; · repeat (first | exact Take1.head | apply Take1.tail)))) (fun w hw => rput_any lim fs v hok (by omega) w (hw.srcF (A := []) hF (by repeat (first | exact Take1.head | apply Take1.tail))) hw.left.here) rfl ?_ -- t27 hailer/hailerref08.Put
    rintro ⟨a27, c27⟩ -
    dsimp only
    refine WL.y (Yl.move rfl) rfl ?_ -- t24
    refine WL.y (Yl.extract rfl rfl) rfl ?_ -- t28
    refine WL.y (Yl.extract rfl rfl) rfl ?_ -- t29
    refine WL.y (Yl.assign rfl) rfl ?_ -- t8
    refine WL.y (Yl.assign rfl) rfl ?_ -- t9
    refine WL.nil ?_
    refine WC.seq ?_
    refine WC.seq ?_
    refine WC.region ?_
    refine WL.y (Yl.move rfl) rfl ?_ -- t30
    refine WL.y (Yl.not rfl) rfl ?_ -- t31
    refine WL.nil ?_
    refine WC.cond rfl (fun g31 => ?_) (fun g31 => ?_)
    · refine WC.seq ?_
      have hG := notT g31
      rw [hG, show (if (!false) = true then ([] : List Int) else (puts lim ([], false) fs).1) = [] from rfl, show (if (!false) = true then (3 : Int) else 0) = 3 from rfl]
      refine WC.region ?_
      refine WL.y (Yl.move rfl) rfl ?_ -- t32
      refine WL.y (Yl.len un28 rfl) rfl ?_ -- t33
      refine WL.y (Yl.eql rfl rfl) rfl ?_ -- t34
      refine WL.know (t := 34) (b' := true) rfl (by first | rfl | (simp; done) | (simp; omega)) ?_
      refine WL.y (Yl.move rfl) rfl ?_ -- t35
      refine WL.on rfl rfl ?_
      refine WL.y (Yl.move rfl) rfl ?_ -- t36
      refine WL.on rfl rfl ?_
      refine WL.y (Yl.eql rfl rfl) rfl ?_ -- t37
      refine WL.know (t := 37) (b' := true) rfl (by first | rfl | (simp; done) | (simp; omega)) ?_
      refine WL.y (Yl.pickT rfl rfl) rfl ?_ -- t38
      refine WL.y (Yl.assign rfl) rfl ?_ -- t4
      refine WL.nil ?_
      refine WC.ret ?_
      repeat (first | (with_reducible refine peelT ?_) | (with_reducible refine peelB ?_) | (with_reducible refine peelTX ?_) | (with_reducible refine peelBX ?_) | (with_reducible refine peelBN ?_) | (with_reducible refine peelBO rfl ?_))
      exact ret1 (.inr rfl) Try.results3 rfl fun w' h => ⟨(), trivial, rfl, h.sub (by repeat (first | exact TakeL.nil | (apply TakeL.cons; · repeat (first | exact Take1.head | apply Take1.tail))))⟩
    · refine WC.skip ?_
      refine WC.seq ?_
      have hG := notF g31
      have hG2 : okFs fs = true := by simp at hG; exact hG.1
      rw [hG, show (if (!true) = true then [] else (puts lim ([], false) fs).1) = encs fs from ho2 hG, show (if (!true) = true then (3 : Int) else 0) = 0 from rfl, hG2, if_pos rfl]
      refine WC.region ?_
      refine WL.y (Yl.move rfl) rfl ?_ -- t39
      refine WL.y (Yl.toStr un28 un5 un9 rfl (Reads.of (r := ownR (.slice a21 (encs fs).length c21) 5 1 (encs fs).length (ints .u8 (encs fs))) RdOf.own (by repeat (first | exact Take1.head | apply Take1.tail)))) rfl ?_ -- t40
      refine WL.y (Yl.move rfl) rfl ?_ -- t41
      refine WL.y (Yl.toStr un28 un5 un9 rfl (Reads.of (r := ownR (.slice a27 (encs fs).length c27) 5 1 (encs fs).length (ints .u8 (encs fs))) RdOf.own (by repeat (first | exact Take1.head | apply Take1.tail)))) rfl ?_ -- t42
      refine WL.y (Yl.sEq rfl rfl) rfl ?_ -- t43
      refine WL.know (t := 43) (b' := true) rfl (by simp) ?_
      refine WL.y (Yl.move rfl) rfl ?_ -- t44
      refine WL.on rfl rfl ?_
      refine WL.y (Yl.move rfl) rfl ?_ -- t45
      refine WL.on rfl rfl ?_
      refine WL.y (Yl.eql rfl rfl) rfl ?_ -- t46
      refine WL.know (t := 46) (b' := true) rfl (by first | rfl | (simp; done) | (simp; omega)) ?_
      refine WL.y (Yl.pickT rfl rfl) rfl ?_ -- t47
      refine WL.y (Yl.assign rfl) rfl ?_ -- t4
      refine WL.nil ?_
      refine WC.ret ?_
      repeat (first | (with_reducible refine peelT ?_) | (with_reducible refine peelB ?_) | (with_reducible refine peelTX ?_) | (with_reducible refine peelBX ?_) | (with_reducible refine peelBN ?_) | (with_reducible refine peelBO rfl ?_))
      exact ret1 (.inr rfl) Try.results3 rfl fun w' h => ⟨(), trivial, rfl, h.sub (by repeat (first | exact TakeL.nil | (apply TakeL.cons; · repeat (first | exact Take1.head | apply Take1.tail))))⟩
end Go.Proofs.Ytahkaepmfnmhcaa
