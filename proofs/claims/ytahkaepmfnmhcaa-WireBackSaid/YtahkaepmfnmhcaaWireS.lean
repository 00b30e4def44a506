/- WireBack: the walk. -/
import Derived.Test.YtahkaepmfnmhcaaWireR
namespace Go.Proofs.Ytahkaepmfnmhcaa
open Go Go.RowKit

/-- What is taken again and put again: its sizes, and that it may be. -/
theorem again_sz {fs gs : List Fd} {B : List Int} {W : Bool} (h : gs.map Fd.norm = (tks fs B W).1) : szs gs ≤ 10 * fs.length + B.length := by
  have := tks_sz fs B W
  rw [← h, szs_norm] at this
  omega
theorem again_ok {fs gs : List Fd} {B : List Int} {W : Bool} (hok : ∀ f ∈ fs, f.ok) (hB : Bytes B) (h : gs.map Fd.norm = (tks fs B W).1) : ∀ g ∈ gs, g.ok := fun g hg => by
  have := tks_ok hok W hB g.norm (by rw [← h]; exact List.mem_map.2 ⟨g, hg, rfl⟩)
  exact norm_ok.1 this

set_option maxRecDepth 100000 in
theorem wireBack_any (fs : List Fd) (v : Value) (r : Res) (hF : FdOf r v fs) (hok : ∀ f ∈ fs, f.ok) (hsz : ∀ f ∈ fs, f.b.length ≤ 140737488355328 ∧ f.l.length ≤ 140737488355328) (bs : List Int) (bv : Value) (hBs : Bytes bs) (ct : Int) (w : World) (hw : OK w (fpL [r, rdR bv 1 bs.length (ints .u8 bs)]) [r, rdR bv 1 bs.length (ints .u8 bs)] w) :
    Fn Try.prog 5 [v, bv, .int .i64 ct] [r, rdR bv 1 bs.length (ints .u8 bs)] w (fun _ : Unit => True) (fun _ => .bool true) (fun _ => []) := by
  obtain ⟨al, cl, rfl, hcl, hml⟩ := (hw.get (.tail .head)).form
  refine enterF Try.func5 rfl Try.ntmps5 rfl hw ?_
  refine WC.seq ?_
  refine WC.region ?_
  refine WL.y (Yl.assign rfl) rfl ?_ -- t6
  refine WL.nil ?_
  refine WC.seq ?_
  refine WC.seq ?_
  refine WC.region ?_
  refine WL.callC (xs := []) (cap := []) rfl rfl en6 (by repeat (first | exact TakeL.nil | (apply TakeL.cons; · repeat (first | exact Take1.head | apply Take1.tail)))) (fun w hw => wknown_any w hw.left.here) rfl ?_ -- t21 hailer/hailerlaw08.known
  rintro ⟨⟩ -
  refine WL.y (Yl.not rfl) rfl ?_ -- t22
  refine WL.nil ?_
  refine WC.condF rfl (by first | rfl | (simp; done) | (simp; omega)) ?_
  refine WC.skip ?_
  refine WC.seq ?_
  refine WC.seq ?_
  refine WC.region ?_
  refine WL.y (Yl.move rfl) rfl ?_ -- t23
  refine WL.callC (xs := [.tmp 23]) (cap := []) rfl rfl en7 (by repeat (first | exact TakeL.nil | (apply TakeL.cons; · repeat (first | exact Take1.head | apply Take1.tail)))) (fun w hw => great_any fs v hsz w (hw.srcF (A := []) hF (by repeat (first | exact Take1.head | apply Take1.tail))) hw.left.here) rfl ?_ -- t24 hailer/hailerref08.Great
  rintro ⟨⟩ -
  refine WL.y (Yl.move rfl) rfl ?_ -- t25
  refine WL.both (t := 25) rfl (fun g25 => ?_) (fun g25 => ?_)
  · refine WL.off rfl rfl rfl rfl ?_ -- t26
    refine WL.off rfl rfl rfl rfl ?_ -- t27
    refine WL.off rfl rfl rfl rfl ?_ -- t28
    refine WL.y (Yl.pickT rfl rfl) rfl ?_ -- t29
    refine WL.nil ?_
    refine WC.condT rfl (by first | rfl | (simp; done) | (simp; omega)) ?_
    refine WC.seq ?_
    refine WC.region ?_
    refine WL.y (Yl.assign rfl) rfl ?_ -- t6
    refine WL.nil ?_
    refine WC.ret ?_
    repeat (first | (with_reducible refine peelT ?_) | (with_reducible refine peelB ?_) | (with_reducible refine peelTX ?_) | (with_reducible refine peelBX ?_) | (with_reducible refine peelBN ?_) | (with_reducible refine peelBO rfl ?_))
    exact ret1 (.inr rfl) Try.results5 rfl fun w' h => ⟨(), trivial, rfl, h.sub (by repeat (first | exact TakeL.nil | (apply TakeL.cons; · repeat (first | exact Take1.head | apply Take1.tail))))⟩
  · refine WL.on rfl rfl ?_
    refine WL.y (Yl.move rfl) rfl ?_ -- t26
    refine WL.on rfl rfl ?_
    refine WL.y (Yl.len un28 rfl) rfl ?_ -- t27
    refine WL.on rfl rfl ?_
    refine WL.y (Yl.gtr rfl rfl) rfl ?_ -- t28
    refine WL.y (Yl.pickF rfl rfl) rfl ?_ -- t29
    refine WL.nil ?_
    refine WC.condD rfl (fun g29 => ?_) (fun g29 => ?_)
    · refine WC.seq ?_
      refine WC.region ?_
      refine WL.y (Yl.assign rfl) rfl ?_ -- t6
      refine WL.nil ?_
      refine WC.ret ?_
      repeat (first | (with_reducible refine peelT ?_) | (with_reducible refine peelB ?_) | (with_reducible refine peelTX ?_) | (with_reducible refine peelBX ?_) | (with_reducible refine peelBN ?_) | (with_reducible refine peelBO rfl ?_))
      exact ret1 (.inr rfl) Try.results5 rfl fun w' h => ⟨(), trivial, rfl, h.sub (by repeat (first | exact TakeL.nil | (apply TakeL.cons; · repeat (first | exact Take1.head | apply Take1.tail))))⟩
    · refine WC.skip ?_
      refine WC.seq ?_
      have hwt : wts fs ≤ 3000 := by have := g25; simp at this; omega
      have hb2 : bs.length ≤ 20000 := by omega
      have hzs := szs_wts fs
      have hlw := len_wts fs
      have hpl := puts_len (lim := 1048576) fs ([], false)
      have hpl2 : (puts 1048576 ([], false) fs).1.length ≤ 54000 := by dsimp only [List.length] at hpl; omega
      obtain ⟨ho1, ho2⟩ := puts_out (lim := 1048576) fs
      have hlo : -9223372036854775808 ≤ (1048576 : Int) ∧ (1048576 : Int) ≤ 9223372036854775807 := by omega
      refine WC.region ?_
      refine WL.callC (xs := [_]) (cap := []) rfl rfl en8 (by repeat (first | exact TakeL.nil | (apply TakeL.cons; · repeat (first | exact Take1.head | apply Take1.tail)))) (fun w hw => newOut_any 1048576 w hw.left.here) rfl ?_ -- t30 hailer/wire.NewOut
      intro b30 _
      refine WL.y (Yl.assign rfl) rfl ?_ -- t7
      refine WL.nil ?_
      refine WC.seq ?_
      refine WC.region ?_
      refine WL.y (Yl.move rfl) rfl ?_ -- t31
      refine WL.y (Yl.move rfl) rfl ?_ -- t32
      refine WL.callC (xs := [.tmp 31, .tmp 32]) (cap := []) rfl rfl en9 (by repeat (first | exact TakeL.nil | (apply TakeL.cons; · repeat (first | exact Take1.head | apply Take1.tail)))) (fun w hw => lput_any fs v b30 (none, 0) 1048576 [] false hok hlo (.inl rfl) (by simp; omega) w (hw.srcF hF (by repeat (first | exact Take1.head | apply Take1.tail))) hw.left.here) rfl ?_ -- t33 hailer/hailerlaw08.put
      intro y33 _
      refine WL.nil ?_
      refine WC.seq ?_
      refine WC.seq ?_
      refine WC.region ?_
      refine WL.y (Yl.move rfl) rfl ?_ -- t35
      refine WL.callC (xs := [.tmp 35]) (cap := []) rfl rfl en10 (by repeat (first | exact TakeL.nil | (apply TakeL.cons; · repeat (first | exact Take1.head | apply Take1.tail)))) (fun w hw => outBytes_all b30 y33 1048576 (puts 1048576 ([], false) fs).1 (puts 1048576 ([], false) fs).2 (by omega) w hw.left.here) rfl ?_ -- t36 (*hailer/wire.Out).Bytes
      rintro ⟨a36, c36⟩ -
      dsimp only
      rw [ho1]
      refine WL.y (Yl.move rfl) rfl ?_ -- t34
      refine WL.y (Yl.extract rfl rfl) rfl ?_ -- t37
      refine WL.y (Yl.extract rfl rfl) rfl ?_ -- t38
      refine WL.y (Yl.assign rfl) rfl ?_ -- t8
      refine WL.y (Yl.assign rfl) rfl ?_ -- t9
      refine WL.nil ?_
      refine WC.seq ?_
      refine WC.region ?_
      refine WL.y (Yl.move rfl) rfl ?_ -- t39
      refine WL.y (Yl.eql rfl rfl) rfl ?_ -- t40
      refine WL.nil ?_
      refine WC.condD rfl (fun g40 => ?_) (fun g40 => ?_)
      · refine WC.seq ?_
        have hG : (okFs fs && decide (((encs fs).length : Int) ≤ 1048576)) = true := by
          cases hG : (okFs fs && decide (((encs fs).length : Int) ≤ 1048576)) with
          | true => rfl
          | false => rw [hG] at g40; exact absurd g40 (by decide)
        have hG2 : okFs fs = true := by simp at hG; exact hG.1
        have hel := encs_len fs
        have heb := encs_bytes hok
        rw [hG, show (if (!true) = true then [] else (puts 1048576 ([], false) fs).1) = encs fs from ho2 hG, show (if (!true) = true then (3 : Int) else 0) = 0 from rfl]
        obtain ⟨gs0, hb0, hb1, hb3⟩ := back hok hG2 []
        rw [List.append_nil] at hb0
        obtain ⟨C, hC⟩ : ∃ C, encs fs = C := ⟨_, rfl⟩
        rw [hC] at hb0 hb1 hel heb ⊢
        refine WC.region ?_
        refine WL.y (Yl.move rfl) rfl ?_ -- t41
        refine WL.callC (xs := [.tmp 41]) (cap := []) rfl rfl en12 (by repeat (first | exact TakeL.nil | (apply TakeL.cons; · repeat (first | exact Take1.head | apply Take1.tail)))) (fun w hw => newIn_any (.slice a36 C.length c36) C (by omega) w (hw.src (A := []) (r := ownR (.slice a36 C.length c36) 5 1 C.length (ints .u8 C)) RdOf.own (by repeat (first | exact Take1.head | apply Take1.tail))) hw.left.here) rfl ?_ -- t42 hailer/wire.NewIn
        rintro ⟨b42, a42, c42⟩ hc42
        dsimp only at hc42 ⊢
        refine WL.y (Yl.assign rfl) rfl ?_ -- t10
        refine WL.nil ?_
        refine WC.seq ?_
        refine WC.region ?_
        refine WL.y (Yl.move rfl) rfl ?_ -- t43
        refine WL.y (Yl.move rfl) rfl ?_ -- t44
        refine WL.callC (xs := [.tmp 43, .tmp 44]) (cap := []) rfl rfl en13 (by repeat (first | exact TakeL.nil | (apply TakeL.cons; · repeat (first | exact Take1.head | apply Take1.tail)))) (fun w hw => ltake_any fs v hok (by omega) b42 a42 c42 C false (ownR (.slice a42 C.length c42) 5 1 C.length (ints .u8 C)) RdOf.own hc42 heb w (hw.srcF hF (by repeat (first | exact Take1.head | apply Take1.tail))) hw.left.here) rfl ?_ -- t45 hailer/hailerlaw08.take
        rintro ⟨⟨a45, c45⟩, ⟨ao45, co45⟩, gs, G⟩ ⟨hgf, hgn⟩
        dsimp only at hgf hgn ⊢
        have hgz := again_sz hgn
        have hgo := again_ok hok heb hgn
        rw [hb0] at hgn ⊢
        dsimp only at hgn ⊢
        have hge : encs gs = C := by rw [← encs_norm, hgn]; exact hb1
        have hgk : okFs gs = true := by rw [← okFs_norm, hgn]; exact hb3
        refine WL.y (Yl.assign rfl) rfl ?_ -- t11
        refine WL.nil ?_
        refine WC.seq ?_
        refine WC.region ?_
        refine WL.y (Yl.move rfl) rfl ?_ -- t46
        refine WL.y (Yl.len un28 rfl) rfl ?_ -- t47
        refine WL.callC (xs := [.tmp 47]) (cap := []) rfl rfl en8 (by repeat (first | exact TakeL.nil | (apply TakeL.cons; · repeat (first | exact Take1.head | apply Take1.tail)))) (fun w hw => newOut_any C.length w hw.left.here) rfl ?_ -- t48 hailer/wire.NewOut
        intro b48 _
        refine WL.y (Yl.assign rfl) rfl ?_ -- t12
        refine WL.nil ?_
        refine WC.seq ?_
        have hpl3 := puts_len (lim := (C.length : Int)) gs ([], false)
        have hpl4 : (puts (C.length : Int) ([], false) gs).1.length ≤ 200000 := by dsimp only [List.length] at hpl3; omega
        obtain ⟨hp1, hp2⟩ := puts_out (lim := (C.length : Int)) gs
        have hpG : (okFs gs && decide (((encs gs).length : Int) ≤ (C.length : Int))) = true := by rw [hgk, hge]; simp
        rw [hpG] at hp1 hp2
        refine WC.region ?_
        refine WL.y (Yl.move rfl) rfl ?_ -- t49
        refine WL.y (Yl.move rfl) rfl ?_ -- t50
        refine WL.callC (xs := [.tmp 49, .tmp 50]) (cap := []) rfl rfl en9 (by repeat (first | exact TakeL.nil | (apply TakeL.cons; · repeat (first | exact Take1.head | apply Take1.tail)))) (fun w hw => lput_any gs (.slice ao45 gs.length co45) b48 (none, 0) C.length [] false hgo (by omega) (.inl rfl) (by simp; omega) w (hw.srcF hgf (by repeat (first | exact Take1.head | apply Take1.tail))) hw.left.here) rfl ?_ -- t51 hailer/hailerlaw08.put
        intro y51 _
        refine WL.nil ?_
        refine WC.seq ?_
        refine WC.region ?_
        refine WL.y (Yl.move rfl) rfl ?_ -- t53
        refine WL.callC (xs := [.tmp 53]) (cap := []) rfl rfl en10 (by repeat (first | exact TakeL.nil | (apply TakeL.cons; · repeat (first | exact Take1.head | apply Take1.tail)))) (fun w hw => outBytes_all b48 y51 C.length (puts C.length ([], false) gs).1 (puts C.length ([], false) gs).2 (by omega) w hw.left.here) rfl ?_ -- t54 (*hailer/wire.Out).Bytes
        rintro ⟨a54, c54⟩ -
        dsimp only
        rw [hp1, show (if (!true) = true then [] else (puts (C.length : Int) ([], false) gs).1) = C from (hp2 rfl).trans hge, show (if (!true) = true then (3 : Int) else 0) = 0 from rfl]
        refine WL.y (Yl.move rfl) rfl ?_ -- t52
        refine WL.y (Yl.extract rfl rfl) rfl ?_ -- t55
        refine WL.y (Yl.extract rfl rfl) rfl ?_ -- t56
        refine WL.y (Yl.assign rfl) rfl ?_ -- t13
        refine WL.y (Yl.assign rfl) rfl ?_ -- t14
        refine WL.nil ?_
        refine WC.seq ?_
        refine WC.seq ?_
        refine WC.region ?_
        refine WL.y (Yl.move rfl) rfl ?_ -- t57
        refine WL.callC (xs := [.tmp 57]) (cap := []) rfl rfl en16 (by repeat (first | exact TakeL.nil | (apply TakeL.cons; · repeat (first | exact Take1.head | apply Take1.tail)))) (fun w hw => inEnd_any b42 a45 c45 [] false w hw.left.here) rfl ?_ -- t58 (*hailer/wire.In).End
        rintro ⟨⟩ -
        refine WL.y (Yl.neq rfl rfl) rfl ?_ -- t59
        refine WL.know (t := 59) (b' := false) rfl (by decide) ?_
        refine WL.y (Yl.move rfl) rfl ?_ -- t60
        refine WL.on rfl rfl ?_
        refine WL.y (Yl.move rfl) rfl ?_ -- t61
        refine WL.on rfl rfl ?_
        refine WL.y (Yl.neq rfl rfl) rfl ?_ -- t62
        refine WL.know (t := 62) (b' := false) rfl (by first | rfl | (simp; done) | (simp; omega)) ?_
        refine WL.y (Yl.pickF rfl rfl) rfl ?_ -- t63
        refine WL.y (Yl.move rfl) rfl ?_ -- t64
        refine WL.on rfl rfl ?_
        refine WL.y (Yl.move rfl) rfl ?_ -- t65
        refine WL.on rfl rfl ?_
        refine WL.y (Yl.toStr un28 un5 un9 rfl (Reads.of (r := ownR (.slice a36 C.length c36) 5 1 C.length (ints .u8 C)) RdOf.own (by repeat (first | exact Take1.head | apply Take1.tail)))) rfl ?_ -- t66
        refine WL.on rfl rfl ?_
        refine WL.y (Yl.move rfl) rfl ?_ -- t67
        refine WL.on rfl rfl ?_
        refine WL.y (Yl.toStr un28 un5 un9 rfl (Reads.of (r := ownR (.slice a54 C.length c54) 5 1 C.length (ints .u8 C)) RdOf.own (by repeat (first | exact Take1.head | apply Take1.tail)))) rfl ?_ -- t68
        refine WL.on rfl rfl ?_
        refine WL.y (Yl.sNe rfl rfl) rfl ?_ -- t69
        refine WL.know (t := 69) (b' := false) rfl (by simp) ?_
        refine WL.y (Yl.pickF rfl rfl) rfl ?_ -- t70
        refine WL.nil ?_
        refine WC.condF rfl (by first | rfl | (simp; done) | (simp; omega)) ?_
        refine WC.skip ?_
        refine WC.seq ?_
        refine WC.region ?_
        refine WL.y (Yl.move rfl) rfl ?_ -- t71
        refine WL.y (Yl.geq rfl rfl) rfl ?_ -- t72
        refine WL.y (Yl.move rfl) rfl ?_ -- t73
        refine WL.both (t := 73) rfl (fun g73 => ?_) (fun g73 => ?_)
        · refine WL.on rfl rfl ?_
          refine WL.y (Yl.move rfl) rfl ?_ -- t74
          refine WL.on rfl rfl ?_
          refine WL.y (Yl.move rfl) rfl ?_ -- t75
          refine WL.on rfl rfl ?_
          refine WL.y (Yl.len un28 rfl) rfl ?_ -- t76
          refine WL.on rfl rfl ?_
          refine WL.y (Yl.lss rfl rfl) rfl ?_ -- t77
          refine WL.y (Yl.pickT rfl rfl) rfl ?_ -- t78
          refine WL.nil ?_
          refine WC.condD rfl (fun g78 => ?_) (fun g78 => ?_)
          · refine WC.seq ?_
            refine WC.region ?_
            refine WL.y (Yl.move rfl) rfl ?_ -- t79
            obtain ⟨m, rfl⟩ : ∃ m : Nat, ct = (m : Int) := ⟨ct.toNat, by have := g73; simp at this; omega⟩
            have hmC : m < C.length := by omega
            refine WL.y (Yl.move rfl) rfl ?_ -- t80
            refine WL.fact (p := C.length ≤ c36) (fun w hw => Sown.le (hw.get (r := ownR (.slice a36 C.length c36) 5 1 C.length (ints .u8 C)) (by repeat (first | exact Take1.head | apply Take1.tail)))) fun hc36 => ?_
            refine WL.y (Yl.slice (h := m) un28 sz5 rfl rfl ⟨_, rfl⟩ (by omega) (by omega)) rfl ?_
            refine WL.callC (xs := [.tmp 81]) (cap := []) rfl rfl en12 (by repeat (first | exact TakeL.nil | (apply TakeL.cons; · repeat (first | exact Take1.head | apply Take1.tail)))) (fun w hw => newIn_any (subS (.slice a36 C.length c36) 0 m c36 1) ((C.drop 0).take (m - 0)) (by simp; omega) w ((hw.src (A := []) (r := ownR (.slice a36 C.length c36) 5 1 C.length (ints .u8 C)) RdOf.own (by repeat (first | exact Take1.head | apply Take1.tail))).sub8 (l := 0) (h := m) (by omega)) hw.left.here) rfl ?_ -- t82 hailer/wire.NewIn
            rintro ⟨b82, a82, c82⟩ hc82
            have hcut : (tks fs ((C.drop 0).take (m - 0)) false).2.2 = true := by
              rw [List.drop_zero, Nat.sub_zero, ← hC]
              exact cut hok hG2 (by rw [hC]; exact hmC)
            have hC0b : Bytes ((C.drop 0).take (m - 0)) := (heb.drop 0).take _
            obtain ⟨C0, hC0⟩ : ∃ C0, (C.drop 0).take (m - 0) = C0 := ⟨_, rfl⟩
            rw [hC0] at hcut hC0b hc82 ⊢
            dsimp only at hc82 ⊢
            refine WL.y (Yl.assign rfl) rfl ?_ -- t15
            refine WL.nil ?_
            refine WC.seq ?_
            refine WC.region ?_
            refine WL.y (Yl.move rfl) rfl ?_ -- t83
            refine WL.y (Yl.move rfl) rfl ?_ -- t84
            refine WL.callC (xs := [.tmp 83, .tmp 84]) (cap := []) rfl rfl en13 (by repeat (first | exact TakeL.nil | (apply TakeL.cons; · repeat (first | exact Take1.head | apply Take1.tail)))) (fun w hw => ltake_any fs v hok (by omega) b82 a82 c82 C0 false (ownR (.slice a82 C0.length c82) 5 1 C0.length (ints .u8 C0)) RdOf.own hc82 hC0b w (hw.srcF hF (by repeat (first | exact Take1.head | apply Take1.tail))) hw.left.here) rfl ?_ -- t85 hailer/hailerlaw08.take
            rintro ⟨⟨a85, c85⟩, ⟨ao85, co85⟩, gs85, G85⟩ -
            dsimp only
            rw [hcut]
            refine WL.nil ?_
            refine WC.seq ?_
            refine WC.region ?_
            refine WL.y (Yl.move rfl) rfl ?_ -- t86
            refine WL.callC (xs := [.tmp 86]) (cap := []) rfl rfl en16 (by repeat (first | exact TakeL.nil | (apply TakeL.cons; · repeat (first | exact Take1.head | apply Take1.tail)))) (fun w hw => inEnd_any b82 a85 c85 (tks fs C0 false).2.1 true w hw.left.here) rfl ?_ -- t87 (*hailer/wire.In).End
            rintro ⟨⟩ -
            refine WL.y (Yl.neq rfl rfl) rfl ?_ -- t88
            refine WL.know (t := 88) (b' := false) rfl (by simp [endE]) ?_
            refine WL.nil ?_
            refine WC.condF rfl (by first | rfl | (simp; done) | (simp; omega)) ?_
            refine WC.skip ?_
            refine WC.seq ?_
            have hlo2 : -9223372036854775808 ≤ (bs.length : Int) ∧ (bs.length : Int) ≤ 9223372036854775807 := by omega
            refine WC.region ?_
            refine WL.y (Yl.move rfl) rfl ?_ -- t89
            refine WL.callC (xs := [.tmp 89]) (cap := []) rfl rfl en12 (by repeat (first | exact TakeL.nil | (apply TakeL.cons; · repeat (first | exact Take1.head | apply Take1.tail)))) (fun w hw => newIn_any (.slice al bs.length cl) bs (by omega) w (hw.src (A := []) (r := rdR (.slice al bs.length cl) 1 bs.length (ints .u8 bs)) RdOf.rd' (by repeat (first | exact Take1.head | apply Take1.tail))) hw.left.here) rfl ?_ -- t90 hailer/wire.NewIn
            rintro ⟨b90, a90, c90⟩ hc90
            dsimp only at hc90 ⊢
            refine WL.y (Yl.assign rfl) rfl ?_ -- t16
            refine WL.nil ?_
            refine WC.seq ?_
            refine WC.region ?_
            refine WL.y (Yl.move rfl) rfl ?_ -- t91
            refine WL.y (Yl.move rfl) rfl ?_ -- t92
            refine WL.callC (xs := [.tmp 91, .tmp 92]) (cap := []) rfl rfl en13 (by repeat (first | exact TakeL.nil | (apply TakeL.cons; · repeat (first | exact Take1.head | apply Take1.tail)))) (fun w hw => ltake_any fs v hok (by omega) b90 a90 c90 bs false (ownR (.slice a90 bs.length c90) 5 1 bs.length (ints .u8 bs)) RdOf.own hc90 hBs w (hw.srcF hF (by repeat (first | exact Take1.head | apply Take1.tail))) hw.left.here) rfl ?_ -- t93 hailer/hailerlaw08.take
            rintro ⟨⟨a93, c93⟩, ⟨ao93, co93⟩, gs93, G93⟩ ⟨hgf93, hgn93⟩
            dsimp only at hgf93 hgn93 ⊢
            have hgz93 := again_sz hgn93
            have hgo93 := again_ok hok hBs hgn93
            refine WL.y (Yl.assign rfl) rfl ?_ -- t17
            refine WL.nil ?_
            refine WC.seq ?_
            refine WC.seq ?_
            refine WC.region ?_
            refine WL.y (Yl.move rfl) rfl ?_ -- t94
            refine WL.callC (xs := [.tmp 94]) (cap := []) rfl rfl en16 (by repeat (first | exact TakeL.nil | (apply TakeL.cons; · repeat (first | exact Take1.head | apply Take1.tail)))) (fun w hw => inEnd_any b90 a93 c93 (tks fs bs false).2.1 (tks fs bs false).2.2 w hw.left.here) rfl ?_ -- t95 (*hailer/wire.In).End
            rintro ⟨⟩ -
            refine WL.y (Yl.neq rfl rfl) rfl ?_ -- t96
            refine WL.nil ?_
            refine WC.condD rfl (fun g96 => ?_) (fun g96 => ?_)
            · refine WC.seq ?_
              refine WC.region ?_
              refine WL.y (Yl.assign rfl) rfl ?_ -- t6
              refine WL.nil ?_
              refine WC.ret ?_
              repeat (first | (with_reducible refine peelT ?_) | (with_reducible refine peelB ?_) | (with_reducible refine peelTX ?_) | (with_reducible refine peelBX ?_) | (with_reducible refine peelBN ?_) | (with_reducible refine peelBO rfl ?_))
              exact ret1 (.inr rfl) Try.results5 rfl fun w' h => ⟨(), trivial, rfl, h.sub (by repeat (first | exact TakeL.nil | (apply TakeL.cons; · repeat (first | exact Take1.head | apply Take1.tail))))⟩
            · refine WC.skip ?_
              refine WC.seq ?_
              have hend : (tks fs bs false).2.2 = false ∧ (tks fs bs false).2.1 = [] := by
                have h0 : endE (tks fs bs false).2.1 (tks fs bs false).2.2 = 0 := by omega
                unfold endE at h0
                split at h0
                · cases h0
                · rename_i hn
                  simp only [Bool.or_eq_true, decide_eq_true_eq, not_or, Bool.not_eq_true] at hn
                  exact ⟨hn.1, List.eq_nil_of_length_eq_zero (by omega)⟩
              obtain ⟨_, hi2, hi3⟩ := inv hBs hend.1
              rw [hend.2, List.append_nil] at hi3
              have hge93 : encs gs93 = bs := by rw [← encs_norm, hgn93]; exact hi3.symm
              have hgk93 : okFs gs93 = true := by rw [← okFs_norm, hgn93]; exact hi2
              have hpl3 := puts_len (lim := (bs.length : Int)) gs93 ([], false)
              have hpl4 : (puts (bs.length : Int) ([], false) gs93).1.length ≤ 200000 := by dsimp only [List.length] at hpl3; omega
              obtain ⟨hp1, hp2⟩ := puts_out (lim := (bs.length : Int)) gs93
              have hpG : (okFs gs93 && decide (((encs gs93).length : Int) ≤ (bs.length : Int))) = true := by rw [hgk93, hge93]; simp
              rw [hpG] at hp1 hp2
              refine WC.region ?_
              refine WL.y (Yl.move rfl) rfl ?_ -- t97
              refine WL.y (Yl.len un28 rfl) rfl ?_ -- t98
              refine WL.callC (xs := [.tmp 98]) (cap := []) rfl rfl en8 (by repeat (first | exact TakeL.nil | (apply TakeL.cons; · repeat (first | exact Take1.head | apply Take1.tail)))) (fun w hw => newOut_any bs.length w hw.left.here) rfl ?_ -- t99 hailer/wire.NewOut
              intro b99 _
              refine WL.y (Yl.assign rfl) rfl ?_ -- t18
              refine WL.nil ?_
              refine WC.seq ?_
              refine WC.region ?_
              refine WL.y (Yl.move rfl) rfl ?_ -- t100
              refine WL.y (Yl.move rfl) rfl ?_ -- t101
              refine WL.callC (xs := [.tmp 100, .tmp 101]) (cap := []) rfl rfl en9 (by repeat (first | exact TakeL.nil | (apply TakeL.cons; · repeat (first | exact Take1.head | apply Take1.tail)))) (fun w hw => lput_any gs93 (.slice ao93 gs93.length co93) b99 (none, 0) bs.length [] false hgo93 hlo2 (.inl rfl) (by simp; omega) w (hw.srcF hgf93 (by repeat (first | exact Take1.head | apply Take1.tail))) hw.left.here) rfl ?_ -- t102 hailer/hailerlaw08.put
              intro y102 _
              refine WL.nil ?_
              refine WC.seq ?_
              refine WC.region ?_
              refine WL.y (Yl.move rfl) rfl ?_ -- t104
              refine WL.callC (xs := [.tmp 104]) (cap := []) rfl rfl en10 (by repeat (first | exact TakeL.nil | (apply TakeL.cons; · repeat (first | exact Take1.head | apply Take1.tail)))) (fun w hw => outBytes_all b99 y102 bs.length (puts bs.length ([], false) gs93).1 (puts bs.length ([], false) gs93).2 (by omega) w hw.left.here) rfl ?_ -- t105 (*hailer/wire.Out).Bytes
              rintro ⟨a105, c105⟩ -
              dsimp only
              rw [hp1, show (if (!true) = true then [] else (puts (bs.length : Int) ([], false) gs93).1) = bs from (hp2 rfl).trans hge93, show (if (!true) = true then (3 : Int) else 0) = 0 from rfl]
              refine WL.y (Yl.move rfl) rfl ?_ -- t103
              refine WL.y (Yl.extract rfl rfl) rfl ?_ -- t106
              refine WL.y (Yl.extract rfl rfl) rfl ?_ -- t107
              refine WL.y (Yl.assign rfl) rfl ?_ -- t19
              refine WL.y (Yl.assign rfl) rfl ?_ -- t20
              refine WL.nil ?_
              refine WC.seq ?_
              refine WC.region ?_
              refine WL.y (Yl.move rfl) rfl ?_ -- t108
              refine WL.y (Yl.eql rfl rfl) rfl ?_ -- t109
              refine WL.know (t := 109) (b' := true) rfl (by first | rfl | (simp; done) | (simp; omega)) ?_
              refine WL.y (Yl.move rfl) rfl ?_ -- t110
              refine WL.on rfl rfl ?_
              refine WL.y (Yl.move rfl) rfl ?_ -- t111
              refine WL.on rfl rfl ?_
              refine WL.y (Yl.toStr un28 un5 un9 rfl (Reads.of (r := ownR (.slice a105 bs.length c105) 5 1 bs.length (ints .u8 bs)) RdOf.own (by repeat (first | exact Take1.head | apply Take1.tail)))) rfl ?_ -- t112
              refine WL.on rfl rfl ?_
              refine WL.y (Yl.move rfl) rfl ?_ -- t113
              refine WL.on rfl rfl ?_
              refine WL.y (Yl.toStr un28 un5 un9 rfl (Reads.of (r := rdR (.slice al bs.length cl) 1 bs.length (ints .u8 bs)) RdOf.rd' (by repeat (first | exact Take1.head | apply Take1.tail)))) rfl ?_ -- t114
              refine WL.on rfl rfl ?_
              refine WL.y (Yl.sEq rfl rfl) rfl ?_ -- t115
              refine WL.know (t := 115) (b' := true) rfl (by simp) ?_
              refine WL.y (Yl.pickT rfl rfl) rfl ?_ -- t116
              refine WL.y (Yl.assign rfl) rfl ?_ -- t6
              refine WL.nil ?_
              refine WC.ret ?_
              repeat (first | (with_reducible refine peelT ?_) | (with_reducible refine peelB ?_) | (with_reducible refine peelTX ?_) | (with_reducible refine peelBX ?_) | (with_reducible refine peelBN ?_) | (with_reducible refine peelBO rfl ?_))
              exact ret1 (.inr rfl) Try.results5 rfl fun w' h => ⟨(), trivial, rfl, h.sub (by repeat (first | exact TakeL.nil | (apply TakeL.cons; · repeat (first | exact Take1.head | apply Take1.tail))))⟩
          · refine WC.skip ?_
            refine WC.seq ?_
            have hlo2 : -9223372036854775808 ≤ (bs.length : Int) ∧ (bs.length : Int) ≤ 9223372036854775807 := by omega
            refine WC.region ?_
            refine WL.y (Yl.move rfl) rfl ?_ -- t89
            refine WL.callC (xs := [.tmp 89]) (cap := []) rfl rfl en12 (by repeat (first | exact TakeL.nil | (apply TakeL.cons; · repeat (first | exact Take1.head | apply Take1.tail)))) (fun w hw => newIn_any (.slice al bs.length cl) bs (by omega) w (hw.src (A := []) (r := rdR (.slice al bs.length cl) 1 bs.length (ints .u8 bs)) RdOf.rd' (by repeat (first | exact Take1.head | apply Take1.tail))) hw.left.here) rfl ?_ -- t90 hailer/wire.NewIn
            rintro ⟨b90, a90, c90⟩ hc90
            dsimp only at hc90 ⊢
            refine WL.y (Yl.assign rfl) rfl ?_ -- t16
            refine WL.nil ?_
            refine WC.seq ?_
            refine WC.region ?_
            refine WL.y (Yl.move rfl) rfl ?_ -- t91
            refine WL.y (Yl.move rfl) rfl ?_ -- t92
            refine WL.callC (xs := [.tmp 91, .tmp 92]) (cap := []) rfl rfl en13 (by repeat (first | exact TakeL.nil | (apply TakeL.cons; · repeat (first | exact Take1.head | apply Take1.tail)))) (fun w hw => ltake_any fs v hok (by omega) b90 a90 c90 bs false (ownR (.slice a90 bs.length c90) 5 1 bs.length (ints .u8 bs)) RdOf.own hc90 hBs w (hw.srcF hF (by repeat (first | exact Take1.head | apply Take1.tail))) hw.left.here) rfl ?_ -- t93 hailer/hailerlaw08.take
            rintro ⟨⟨a93, c93⟩, ⟨ao93, co93⟩, gs93, G93⟩ ⟨hgf93, hgn93⟩
            dsimp only at hgf93 hgn93 ⊢
            have hgz93 := again_sz hgn93
            have hgo93 := again_ok hok hBs hgn93
            refine WL.y (Yl.assign rfl) rfl ?_ -- t17
            refine WL.nil ?_
            refine WC.seq ?_
            refine WC.seq ?_
            refine WC.region ?_
            refine WL.y (Yl.move rfl) rfl ?_ -- t94
            refine WL.callC (xs := [.tmp 94]) (cap := []) rfl rfl en16 (by repeat (first | exact TakeL.nil | (apply TakeL.cons; · repeat (first | exact Take1.head | apply Take1.tail)))) (fun w hw => inEnd_any b90 a93 c93 (tks fs bs false).2.1 (tks fs bs false).2.2 w hw.left.here) rfl ?_ -- t95 (*hailer/wire.In).End
            rintro ⟨⟩ -
            refine WL.y (Yl.neq rfl rfl) rfl ?_ -- t96
            refine WL.nil ?_
            refine WC.condD rfl (fun g96 => ?_) (fun g96 => ?_)
            · refine WC.seq ?_
              refine WC.region ?_
              refine WL.y (Yl.assign rfl) rfl ?_ -- t6
              refine WL.nil ?_
              refine WC.ret ?_
              repeat (first | (with_reducible refine peelT ?_) | (with_reducible refine peelB ?_) | (with_reducible refine peelTX ?_) | (with_reducible refine peelBX ?_) | (with_reducible refine peelBN ?_) | (with_reducible refine peelBO rfl ?_))
              exact ret1 (.inr rfl) Try.results5 rfl fun w' h => ⟨(), trivial, rfl, h.sub (by repeat (first | exact TakeL.nil | (apply TakeL.cons; · repeat (first | exact Take1.head | apply Take1.tail))))⟩
            · refine WC.skip ?_
              refine WC.seq ?_
              have hend : (tks fs bs false).2.2 = false ∧ (tks fs bs false).2.1 = [] := by
                have h0 : endE (tks fs bs false).2.1 (tks fs bs false).2.2 = 0 := by omega
                unfold endE at h0
                split at h0
                · cases h0
                · rename_i hn
                  simp only [Bool.or_eq_true, decide_eq_true_eq, not_or, Bool.not_eq_true] at hn
                  exact ⟨hn.1, List.eq_nil_of_length_eq_zero (by omega)⟩
              obtain ⟨_, hi2, hi3⟩ := inv hBs hend.1
              rw [hend.2, List.append_nil] at hi3
              have hge93 : encs gs93 = bs := by rw [← encs_norm, hgn93]; exact hi3.symm
              have hgk93 : okFs gs93 = true := by rw [← okFs_norm, hgn93]; exact hi2
              have hpl3 := puts_len (lim := (bs.length : Int)) gs93 ([], false)
              have hpl4 : (puts (bs.length : Int) ([], false) gs93).1.length ≤ 200000 := by dsimp only [List.length] at hpl3; omega
              obtain ⟨hp1, hp2⟩ := puts_out (lim := (bs.length : Int)) gs93
              have hpG : (okFs gs93 && decide (((encs gs93).length : Int) ≤ (bs.length : Int))) = true := by rw [hgk93, hge93]; simp
              rw [hpG] at hp1 hp2
              refine WC.region ?_
              refine WL.y (Yl.move rfl) rfl ?_ -- t97
              refine WL.y (Yl.len un28 rfl) rfl ?_ -- t98
              refine WL.callC (xs := [.tmp 98]) (cap := []) rfl rfl en8 (by repeat (first | exact TakeL.nil | (apply TakeL.cons; · repeat (first | exact Take1.head | apply Take1.tail)))) (fun w hw => newOut_any bs.length w hw.left.here) rfl ?_ -- t99 hailer/wire.NewOut
              intro b99 _
              refine WL.y (Yl.assign rfl) rfl ?_ -- t18
              refine WL.nil ?_
              refine WC.seq ?_
              refine WC.region ?_
              refine WL.y (Yl.move rfl) rfl ?_ -- t100
              refine WL.y (Yl.move rfl) rfl ?_ -- t101
              refine WL.callC (xs := [.tmp 100, .tmp 101]) (cap := []) rfl rfl en9 (by repeat (first | exact TakeL.nil | (apply TakeL.cons; · repeat (first | exact Take1.head | apply Take1.tail)))) (fun w hw => lput_any gs93 (.slice ao93 gs93.length co93) b99 (none, 0) bs.length [] false hgo93 hlo2 (.inl rfl) (by simp; omega) w (hw.srcF hgf93 (by repeat (first | exact Take1.head | apply Take1.tail))) hw.left.here) rfl ?_ -- t102 hailer/hailerlaw08.put
              intro y102 _
              refine WL.nil ?_
              refine WC.seq ?_
              refine WC.region ?_
              refine WL.y (Yl.move rfl) rfl ?_ -- t104
              refine WL.callC (xs := [.tmp 104]) (cap := []) rfl rfl en10 (by repeat (first | exact TakeL.nil | (apply TakeL.cons; · repeat (first | exact Take1.head | apply Take1.tail)))) (fun w hw => outBytes_all b99 y102 bs.length (puts bs.length ([], false) gs93).1 (puts bs.length ([], false) gs93).2 (by omega) w hw.left.here) rfl ?_ -- t105 (*hailer/wire.Out).Bytes
              rintro ⟨a105, c105⟩ -
              dsimp only
              rw [hp1, show (if (!true) = true then [] else (puts (bs.length : Int) ([], false) gs93).1) = bs from (hp2 rfl).trans hge93, show (if (!true) = true then (3 : Int) else 0) = 0 from rfl]
              refine WL.y (Yl.move rfl) rfl ?_ -- t103
              refine WL.y (Yl.extract rfl rfl) rfl ?_ -- t106
              refine WL.y (Yl.extract rfl rfl) rfl ?_ -- t107
              refine WL.y (Yl.assign rfl) rfl ?_ -- t19
              refine WL.y (Yl.assign rfl) rfl ?_ -- t20
              refine WL.nil ?_
              refine WC.seq ?_
              refine WC.region ?_
              refine WL.y (Yl.move rfl) rfl ?_ -- t108
              refine WL.y (Yl.eql rfl rfl) rfl ?_ -- t109
              refine WL.know (t := 109) (b' := true) rfl (by first | rfl | (simp; done) | (simp; omega)) ?_
              refine WL.y (Yl.move rfl) rfl ?_ -- t110
              refine WL.on rfl rfl ?_
              refine WL.y (Yl.move rfl) rfl ?_ -- t111
              refine WL.on rfl rfl ?_
              refine WL.y (Yl.toStr un28 un5 un9 rfl (Reads.of (r := ownR (.slice a105 bs.length c105) 5 1 bs.length (ints .u8 bs)) RdOf.own (by repeat (first | exact Take1.head | apply Take1.tail)))) rfl ?_ -- t112
              refine WL.on rfl rfl ?_
              refine WL.y (Yl.move rfl) rfl ?_ -- t113
              refine WL.on rfl rfl ?_
              refine WL.y (Yl.toStr un28 un5 un9 rfl (Reads.of (r := rdR (.slice al bs.length cl) 1 bs.length (ints .u8 bs)) RdOf.rd' (by repeat (first | exact Take1.head | apply Take1.tail)))) rfl ?_ -- t114
              refine WL.on rfl rfl ?_
              refine WL.y (Yl.sEq rfl rfl) rfl ?_ -- t115
              refine WL.know (t := 115) (b' := true) rfl (by simp) ?_
              refine WL.y (Yl.pickT rfl rfl) rfl ?_ -- t116
              refine WL.y (Yl.assign rfl) rfl ?_ -- t6
              refine WL.nil ?_
              refine WC.ret ?_
              repeat (first | (with_reducible refine peelT ?_) | (with_reducible refine peelB ?_) | (with_reducible refine peelTX ?_) | (with_reducible refine peelBX ?_) | (with_reducible refine peelBN ?_) | (with_reducible refine peelBO rfl ?_))
              exact ret1 (.inr rfl) Try.results5 rfl fun w' h => ⟨(), trivial, rfl, h.sub (by repeat (first | exact TakeL.nil | (apply TakeL.cons; · repeat (first | exact Take1.head | apply Take1.tail))))⟩
        · refine WL.off rfl rfl rfl rfl ?_ -- t74
          refine WL.off rfl rfl rfl rfl ?_ -- t75
          refine WL.off rfl rfl rfl rfl ?_ -- t76
          refine WL.off rfl rfl rfl rfl ?_ -- t77
          refine WL.y (Yl.pickF rfl rfl) rfl ?_ -- t78
          refine WL.nil ?_
          refine WC.condF rfl (by first | rfl | (simp; done) | (simp; omega)) ?_
          refine WC.skip ?_
          refine WC.seq ?_
          have hlo2 : -9223372036854775808 ≤ (bs.length : Int) ∧ (bs.length : Int) ≤ 9223372036854775807 := by omega
          refine WC.region ?_
          refine WL.y (Yl.move rfl) rfl ?_ -- t89
          refine WL.callC (xs := [.tmp 89]) (cap := []) rfl rfl en12 (by repeat (first | exact TakeL.nil | (apply TakeL.cons; · repeat (first | exact Take1.head | apply Take1.tail)))) (fun w hw => newIn_any (.slice al bs.length cl) bs (by omega) w (hw.src (A := []) (r := rdR (.slice al bs.length cl) 1 bs.length (ints .u8 bs)) RdOf.rd' (by repeat (first | exact Take1.head | apply Take1.tail))) hw.left.here) rfl ?_ -- t90 hailer/wire.NewIn
          rintro ⟨b90, a90, c90⟩ hc90
          dsimp only at hc90 ⊢
          refine WL.y (Yl.assign rfl) rfl ?_ -- t16
          refine WL.nil ?_
          refine WC.seq ?_
          refine WC.region ?_
          refine WL.y (Yl.move rfl) rfl ?_ -- t91
          refine WL.y (Yl.move rfl) rfl ?_ -- t92
          refine WL.callC (xs := [.tmp 91, .tmp 92]) (cap := []) rfl rfl en13 (by repeat (first | exact TakeL.nil | (apply TakeL.cons; · repeat (first | exact Take1.head | apply Take1.tail)))) (fun w hw => ltake_any fs v hok (by omega) b90 a90 c90 bs false (ownR (.slice a90 bs.length c90) 5 1 bs.length (ints .u8 bs)) RdOf.own hc90 hBs w (hw.srcF hF (by repeat (first | exact Take1.head | apply Take1.tail))) hw.left.here) rfl ?_ -- t93 hailer/hailerlaw08.take
          rintro ⟨⟨a93, c93⟩, ⟨ao93, co93⟩, gs93, G93⟩ ⟨hgf93, hgn93⟩
          dsimp only at hgf93 hgn93 ⊢
          have hgz93 := again_sz hgn93
          have hgo93 := again_ok hok hBs hgn93
          refine WL.y (Yl.assign rfl) rfl ?_ -- t17
          refine WL.nil ?_
          refine WC.seq ?_
          refine WC.seq ?_
          refine WC.region ?_
          refine WL.y (Yl.move rfl) rfl ?_ -- t94
          refine WL.callC (xs := [.tmp 94]) (cap := []) rfl rfl en16 (by repeat (first | exact TakeL.nil | (apply TakeL.cons; · repeat (first | exact Take1.head | apply Take1.tail)))) (fun w hw => inEnd_any b90 a93 c93 (tks fs bs false).2.1 (tks fs bs false).2.2 w hw.left.here) rfl ?_ -- t95 (*hailer/wire.In).End
          rintro ⟨⟩ -
          refine WL.y (Yl.neq rfl rfl) rfl ?_ -- t96
          refine WL.nil ?_
          refine WC.condD rfl (fun g96 => ?_) (fun g96 => ?_)
          · refine WC.seq ?_
            refine WC.region ?_
            refine WL.y (Yl.assign rfl) rfl ?_ -- t6
            refine WL.nil ?_
            refine WC.ret ?_
            repeat (first | (with_reducible refine peelT ?_) | (with_reducible refine peelB ?_) | (with_reducible refine peelTX ?_) | (with_reducible refine peelBX ?_) | (with_reducible refine peelBN ?_) | (with_reducible refine peelBO rfl ?_))
            exact ret1 (.inr rfl) Try.results5 rfl fun w' h => ⟨(), trivial, rfl, h.sub (by repeat (first | exact TakeL.nil | (apply TakeL.cons; · repeat (first | exact Take1.head | apply Take1.tail))))⟩
          · refine WC.skip ?_
            refine WC.seq ?_
            have hend : (tks fs bs false).2.2 = false ∧ (tks fs bs false).2.1 = [] := by
              have h0 : endE (tks fs bs false).2.1 (tks fs bs false).2.2 = 0 := by omega
              unfold endE at h0
              split at h0
              · cases h0
              · rename_i hn
                simp only [Bool.or_eq_true, decide_eq_true_eq, not_or, Bool.not_eq_true] at hn
                exact ⟨hn.1, List.eq_nil_of_length_eq_zero (by omega)⟩
            obtain ⟨_, hi2, hi3⟩ := inv hBs hend.1
            rw [hend.2, List.append_nil] at hi3
            have hge93 : encs gs93 = bs := by rw [← encs_norm, hgn93]; exact hi3.symm
            have hgk93 : okFs gs93 = true := by rw [← okFs_norm, hgn93]; exact hi2
            have hpl3 := puts_len (lim := (bs.length : Int)) gs93 ([], false)
            have hpl4 : (puts (bs.length : Int) ([], false) gs93).1.length ≤ 200000 := by dsimp only [List.length] at hpl3; omega
            obtain ⟨hp1, hp2⟩ := puts_out (lim := (bs.length : Int)) gs93
            have hpG : (okFs gs93 && decide (((encs gs93).length : Int) ≤ (bs.length : Int))) = true := by rw [hgk93, hge93]; simp
            rw [hpG] at hp1 hp2
            refine WC.region ?_
            refine WL.y (Yl.move rfl) rfl ?_ -- t97
            refine WL.y (Yl.len un28 rfl) rfl ?_ -- t98
            refine WL.callC (xs := [.tmp 98]) (cap := []) rfl rfl en8 (by repeat (first | exact TakeL.nil | (apply TakeL.cons; · repeat (first | exact Take1.head | apply Take1.tail)))) (fun w hw => newOut_any bs.length w hw.left.here) rfl ?_ -- t99 hailer/wire.NewOut
            intro b99 _
            refine WL.y (Yl.assign rfl) rfl ?_ -- t18
            refine WL.nil ?_
            refine WC.seq ?_
            refine WC.region ?_
            refine WL.y (Yl.move rfl) rfl ?_ -- t100
            refine WL.y (Yl.move rfl) rfl ?_ -- t101
            refine WL.callC (xs := [.tmp 100, .tmp 101]) (cap := []) rfl rfl en9 (by repeat (first | exact TakeL.nil | (apply TakeL.cons; · repeat (first | exact Take1.head | apply Take1.tail)))) (fun w hw => lput_any gs93 (.slice ao93 gs93.length co93) b99 (none, 0) bs.length [] false hgo93 hlo2 (.inl rfl) (by simp; omega) w (hw.srcF hgf93 (by repeat (first | exact Take1.head | apply Take1.tail))) hw.left.here) rfl ?_ -- t102 hailer/hailerlaw08.put
            intro y102 _
            refine WL.nil ?_
            refine WC.seq ?_
            refine WC.region ?_
            refine WL.y (Yl.move rfl) rfl ?_ -- t104
            refine WL.callC (xs := [.tmp 104]) (cap := []) rfl rfl en10 (by repeat (first | exact TakeL.nil | (apply TakeL.cons; · repeat (first | exact Take1.head | apply Take1.tail)))) (fun w hw => outBytes_all b99 y102 bs.length (puts bs.length ([], false) gs93).1 (puts bs.length ([], false) gs93).2 (by omega) w hw.left.here) rfl ?_ -- t105 (*hailer/wire.Out).Bytes
            rintro ⟨a105, c105⟩ -
            dsimp only
            rw [hp1, show (if (!true) = true then [] else (puts (bs.length : Int) ([], false) gs93).1) = bs from (hp2 rfl).trans hge93, show (if (!true) = true then (3 : Int) else 0) = 0 from rfl]
            refine WL.y (Yl.move rfl) rfl ?_ -- t103
            refine WL.y (Yl.extract rfl rfl) rfl ?_ -- t106
            refine WL.y (Yl.extract rfl rfl) rfl ?_ -- t107
            refine WL.y (Yl.assign rfl) rfl ?_ -- t19
            refine WL.y (Yl.assign rfl) rfl ?_ -- t20
            refine WL.nil ?_
            refine WC.seq ?_
            refine WC.region ?_
            refine WL.y (Yl.move rfl) rfl ?_ -- t108
            refine WL.y (Yl.eql rfl rfl) rfl ?_ -- t109
            refine WL.know (t := 109) (b' := true) rfl (by first | rfl | (simp; done) | (simp; omega)) ?_
            refine WL.y (Yl.move rfl) rfl ?_ -- t110
            refine WL.on rfl rfl ?_
            refine WL.y (Yl.move rfl) rfl ?_ -- t111
            refine WL.on rfl rfl ?_
            refine WL.y (Yl.toStr un28 un5 un9 rfl (Reads.of (r := ownR (.slice a105 bs.length c105) 5 1 bs.length (ints .u8 bs)) RdOf.own (by repeat (first | exact Take1.head | apply Take1.tail)))) rfl ?_ -- t112
            refine WL.on rfl rfl ?_
            refine WL.y (Yl.move rfl) rfl ?_ -- t113
            refine WL.on rfl rfl ?_
            refine WL.y (Yl.toStr un28 un5 un9 rfl (Reads.of (r := rdR (.slice al bs.length cl) 1 bs.length (ints .u8 bs)) RdOf.rd' (by repeat (first | exact Take1.head | apply Take1.tail)))) rfl ?_ -- t114
            refine WL.on rfl rfl ?_
            refine WL.y (Yl.sEq rfl rfl) rfl ?_ -- t115
            refine WL.know (t := 115) (b' := true) rfl (by simp) ?_
            refine WL.y (Yl.pickT rfl rfl) rfl ?_ -- t116
            refine WL.y (Yl.assign rfl) rfl ?_ -- t6
            refine WL.nil ?_
            refine WC.ret ?_
            repeat (first | (with_reducible refine peelT ?_) | (with_reducible refine peelB ?_) | (with_reducible refine peelTX ?_) | (with_reducible refine peelBX ?_) | (with_reducible refine peelBN ?_) | (with_reducible refine peelBO rfl ?_))
            exact ret1 (.inr rfl) Try.results5 rfl fun w' h => ⟨(), trivial, rfl, h.sub (by repeat (first | exact TakeL.nil | (apply TakeL.cons; · repeat (first | exact Take1.head | apply Take1.tail))))⟩
      · refine WC.skip ?_
        refine WC.seq ?_
        have hlo2 : -9223372036854775808 ≤ (bs.length : Int) ∧ (bs.length : Int) ≤ 9223372036854775807 := by omega
        refine WC.region ?_
        refine WL.y (Yl.move rfl) rfl ?_ -- t89
        refine WL.callC (xs := [.tmp 89]) (cap := []) rfl rfl en12 (by repeat (first | exact TakeL.nil | (apply TakeL.cons; · repeat (first | exact Take1.head | apply Take1.tail)))) (fun w hw => newIn_any (.slice al bs.length cl) bs (by omega) w (hw.src (A := []) (r := rdR (.slice al bs.length cl) 1 bs.length (ints .u8 bs)) RdOf.rd' (by repeat (first | exact Take1.head | apply Take1.tail))) hw.left.here) rfl ?_ -- t90 hailer/wire.NewIn
        rintro ⟨b90, a90, c90⟩ hc90
        dsimp only at hc90 ⊢
        refine WL.y (Yl.assign rfl) rfl ?_ -- t16
        refine WL.nil ?_
        refine WC.seq ?_
        refine WC.region ?_
        refine WL.y (Yl.move rfl) rfl ?_ -- t91
        refine WL.y (Yl.move rfl) rfl ?_ -- t92
        refine WL.callC (xs := [.tmp 91, .tmp 92]) (cap := []) rfl rfl en13 (by repeat (first | exact TakeL.nil | (apply TakeL.cons; · repeat (first | exact Take1.head | apply Take1.tail)))) (fun w hw => ltake_any fs v hok (by omega) b90 a90 c90 bs false (ownR (.slice a90 bs.length c90) 5 1 bs.length (ints .u8 bs)) RdOf.own hc90 hBs w (hw.srcF hF (by repeat (first | exact Take1.head | apply Take1.tail))) hw.left.here) rfl ?_ -- t93 hailer/hailerlaw08.take
        rintro ⟨⟨a93, c93⟩, ⟨ao93, co93⟩, gs93, G93⟩ ⟨hgf93, hgn93⟩
        dsimp only at hgf93 hgn93 ⊢
        have hgz93 := again_sz hgn93
        have hgo93 := again_ok hok hBs hgn93
        refine WL.y (Yl.assign rfl) rfl ?_ -- t17
        refine WL.nil ?_
        refine WC.seq ?_
        refine WC.seq ?_
        refine WC.region ?_
        refine WL.y (Yl.move rfl) rfl ?_ -- t94
        refine WL.callC (xs := [.tmp 94]) (cap := []) rfl rfl en16 (by repeat (first | exact TakeL.nil | (apply TakeL.cons; · repeat (first | exact Take1.head | apply Take1.tail)))) (fun w hw => inEnd_any b90 a93 c93 (tks fs bs false).2.1 (tks fs bs false).2.2 w hw.left.here) rfl ?_ -- t95 (*hailer/wire.In).End
        rintro ⟨⟩ -
        refine WL.y (Yl.neq rfl rfl) rfl ?_ -- t96
        refine WL.nil ?_
        refine WC.condD rfl (fun g96 => ?_) (fun g96 => ?_)
        · refine WC.seq ?_
          refine WC.region ?_
          refine WL.y (Yl.assign rfl) rfl ?_ -- t6
          refine WL.nil ?_
          refine WC.ret ?_
          repeat (first | (with_reducible refine peelT ?_) | (with_reducible refine peelB ?_) | (with_reducible refine peelTX ?_) | (with_reducible refine peelBX ?_) | (with_reducible refine peelBN ?_) | (with_reducible refine peelBO rfl ?_))
          exact ret1 (.inr rfl) Try.results5 rfl fun w' h => ⟨(), trivial, rfl, h.sub (by repeat (first | exact TakeL.nil | (apply TakeL.cons; · repeat (first | exact Take1.head | apply Take1.tail))))⟩
        · refine WC.skip ?_
          refine WC.seq ?_
          have hend : (tks fs bs false).2.2 = false ∧ (tks fs bs false).2.1 = [] := by
            have h0 : endE (tks fs bs false).2.1 (tks fs bs false).2.2 = 0 := by omega
            unfold endE at h0
            split at h0
            · cases h0
            · rename_i hn
              simp only [Bool.or_eq_true, decide_eq_true_eq, not_or, Bool.not_eq_true] at hn
              exact ⟨hn.1, List.eq_nil_of_length_eq_zero (by omega)⟩
          obtain ⟨_, hi2, hi3⟩ := inv hBs hend.1
          rw [hend.2, List.append_nil] at hi3
          have hge93 : encs gs93 = bs := by rw [← encs_norm, hgn93]; exact hi3.symm
          have hgk93 : okFs gs93 = true := by rw [← okFs_norm, hgn93]; exact hi2
          have hpl3 := puts_len (lim := (bs.length : Int)) gs93 ([], false)
          have hpl4 : (puts (bs.length : Int) ([], false) gs93).1.length ≤ 200000 := by dsimp only [List.length] at hpl3; omega
          obtain ⟨hp1, hp2⟩ := puts_out (lim := (bs.length : Int)) gs93
          have hpG : (okFs gs93 && decide (((encs gs93).length : Int) ≤ (bs.length : Int))) = true := by rw [hgk93, hge93]; simp
          rw [hpG] at hp1 hp2
          refine WC.region ?_
          refine WL.y (Yl.move rfl) rfl ?_ -- t97
          refine WL.y (Yl.len un28 rfl) rfl ?_ -- t98
          refine WL.callC (xs := [.tmp 98]) (cap := []) rfl rfl en8 (by repeat (first | exact TakeL.nil | (apply TakeL.cons; · repeat (first | exact Take1.head | apply Take1.tail)))) (fun w hw => newOut_any bs.length w hw.left.here) rfl ?_ -- t99 hailer/wire.NewOut
          intro b99 _
          refine WL.y (Yl.assign rfl) rfl ?_ -- t18
          refine WL.nil ?_
          refine WC.seq ?_
          refine WC.region ?_
          refine WL.y (Yl.move rfl) rfl ?_ -- t100
          refine WL.y (Yl.move rfl) rfl ?_ -- t101
          refine WL.callC (xs := [.tmp 100, .tmp 101]) (cap := []) rfl rfl en9 (by repeat (first | exact TakeL.nil | (apply TakeL.cons; · repeat (first | exact Take1.head | apply Take1.tail)))) (fun w hw => lput_any gs93 (.slice ao93 gs93.length co93) b99 (none, 0) bs.length [] false hgo93 hlo2 (.inl rfl) (by simp; omega) w (hw.srcF hgf93 (by repeat (first | exact Take1.head | apply Take1.tail))) hw.left.here) rfl ?_ -- t102 hailer/hailerlaw08.put
          intro y102 _
          refine WL.nil ?_
          refine WC.seq ?_
          refine WC.region ?_
          refine WL.y (Yl.move rfl) rfl ?_ -- t104
          refine WL.callC (xs := [.tmp 104]) (cap := []) rfl rfl en10 (by repeat (first | exact TakeL.nil | (apply TakeL.cons; · repeat (first | exact Take1.head | apply Take1.tail)))) (fun w hw => outBytes_all b99 y102 bs.length (puts bs.length ([], false) gs93).1 (puts bs.length ([], false) gs93).2 (by omega) w hw.left.here) rfl ?_ -- t105 (*hailer/wire.Out).Bytes
          rintro ⟨a105, c105⟩ -
          dsimp only
          rw [hp1, show (if (!true) = true then [] else (puts (bs.length : Int) ([], false) gs93).1) = bs from (hp2 rfl).trans hge93, show (if (!true) = true then (3 : Int) else 0) = 0 from rfl]
          refine WL.y (Yl.move rfl) rfl ?_ -- t103
          refine WL.y (Yl.extract rfl rfl) rfl ?_ -- t106
          refine WL.y (Yl.extract rfl rfl) rfl ?_ -- t107
          refine WL.y (Yl.assign rfl) rfl ?_ -- t19
          refine WL.y (Yl.assign rfl) rfl ?_ -- t20
          refine WL.nil ?_
          refine WC.seq ?_
          refine WC.region ?_
          refine WL.y (Yl.move rfl) rfl ?_ -- t108
          refine WL.y (Yl.eql rfl rfl) rfl ?_ -- t109
          refine WL.know (t := 109) (b' := true) rfl (by first | rfl | (simp; done) | (simp; omega)) ?_
          refine WL.y (Yl.move rfl) rfl ?_ -- t110
          refine WL.on rfl rfl ?_
          refine WL.y (Yl.move rfl) rfl ?_ -- t111
          refine WL.on rfl rfl ?_
          refine WL.y (Yl.toStr un28 un5 un9 rfl (Reads.of (r := ownR (.slice a105 bs.length c105) 5 1 bs.length (ints .u8 bs)) RdOf.own (by repeat (first | exact Take1.head | apply Take1.tail)))) rfl ?_ -- t112
          refine WL.on rfl rfl ?_
          refine WL.y (Yl.move rfl) rfl ?_ -- t113
          refine WL.on rfl rfl ?_
          refine WL.y (Yl.toStr un28 un5 un9 rfl (Reads.of (r := rdR (.slice al bs.length cl) 1 bs.length (ints .u8 bs)) RdOf.rd' (by repeat (first | exact Take1.head | apply Take1.tail)))) rfl ?_ -- t114
          refine WL.on rfl rfl ?_
          refine WL.y (Yl.sEq rfl rfl) rfl ?_ -- t115
          refine WL.know (t := 115) (b' := true) rfl (by simp) ?_
          refine WL.y (Yl.pickT rfl rfl) rfl ?_ -- t116
          refine WL.y (Yl.assign rfl) rfl ?_ -- t6
          refine WL.nil ?_
          refine WC.ret ?_
          repeat (first | (with_reducible refine peelT ?_) | (with_reducible refine peelB ?_) | (with_reducible refine peelTX ?_) | (with_reducible refine peelBX ?_) | (with_reducible refine peelBN ?_) | (with_reducible refine peelBO rfl ?_))
          exact ret1 (.inr rfl) Try.results5 rfl fun w' h => ⟨(), trivial, rfl, h.sub (by repeat (first | exact TakeL.nil | (apply TakeL.cons; · repeat (first | exact Take1.head | apply Take1.tail))))⟩
end Go.Proofs.Ytahkaepmfnmhcaa
