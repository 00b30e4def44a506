/- WireTakes: the walk. -/
import Derived.Test.YtahkaepmfnmhcaaWireU
namespace Go.Proofs.Ytahkaepmfnmhcaa
open Go Go.RowKit

set_option maxRecDepth 100000 in
theorem same_any (fs gs : List Fd) (u v : Value) (hn : fs.map Fd.norm = gs.map Fd.norm) (w : World) (hx : FdS w (fpL []) u fs) (hy : FdS w (fpL []) v gs) (hw : OK w (fpL []) [] w) :
    Fn Try.prog 17 [u, v] [] w (fun _ : Unit => True) (fun _ => .bool true) (fun _ => []) := by
  obtain ⟨al, cl, rfl, hcl, hml⟩ := hx.rows.rd.form
  obtain ⟨al2, cl2, rfl, hcl2, hml2⟩ := hy.rows.rd.form
  unfold maxLen at hml hml2
  have hlen : fs.length = gs.length := by have := congrArg List.length hn; simpa using this
  refine enterF Try.func17 rfl Try.ntmps17 rfl hw ?_
  refine WC.seq ?_
  refine WC.region ?_
  refine WL.y (Yl.assign rfl) rfl ?_ -- t4
  refine WL.nil ?_
  refine WC.seq ?_
  refine WC.region ?_
  refine WL.y (Yl.move rfl) rfl ?_ -- t8
  refine WL.y (Yl.len un22 rfl) rfl ?_ -- t9
  refine WL.y (Yl.move rfl) rfl ?_ -- t10
  refine WL.y (Yl.len un22 rfl) rfl ?_ -- t11
  refine WL.y (Yl.eql rfl rfl) rfl ?_ -- t12
  refine WL.say (t := 12) (v' := .bool true) rfl (by simp [hlen]) ?_
  refine WL.y (Yl.assign rfl) rfl ?_ -- t5
  refine WL.nil ?_
  refine WC.seq ?_
  refine WC.seq ?_
  refine WC.region ?_
  refine WL.y (Yl.assign rfl) rfl ?_ -- t6
  refine WL.nil ?_
  refine WC.block ?_
  refine WC.loop (α := Nat) (fun i => [(0, .slice al fs.length cl), (1, .slice al2 gs.length cl2), (5, .bool true), (6, .int .i64 (i : Int))]) (fun _ => []) (fun i => i ≤ fs.length) (fun i => fs.length - i) 0 (Nat.zero_le _) ⟨(by repeat (first | exact Sub.nil | refine Sub.cons rfl ?_)), _, (by repeat (first | exact TakeL.nil | (apply TakeL.cons; · repeat (first | exact Take1.head | apply Take1.tail))))⟩ ?_
  intro i hi
  refine WC.seq ?_
  refine WC.seq ?_
  refine WC.region ?_
  refine WL.y (Yl.move rfl) rfl ?_ -- t13
  refine WL.y (Yl.move rfl) rfl ?_ -- t14
  refine WL.y (Yl.len un22 rfl) rfl ?_ -- t15
  refine WL.y (Yl.lss rfl rfl) rfl ?_ -- t16
  refine WL.y (Yl.move rfl) rfl ?_ -- t17
  refine WL.both (t := 17) rfl (fun g17 => ?_) (fun g17 => ?_)
  · refine WL.on rfl rfl ?_
    refine WL.y (Yl.move rfl) rfl ?_ -- t18
    refine WL.y (Yl.pickT rfl rfl) rfl ?_ -- t19
    refine WL.nil ?_
    refine WC.condT rfl (by first | rfl | (simp; done) | (simp; omega)) ?_
    refine WC.skip ?_
    refine WC.seq ?_
    refine WC.block ?_
    refine WC.seq ?_
    have hil : i < fs.length := by simpa using g17
    obtain ⟨f, hf⟩ : ∃ f, fs[i]? = some f := ⟨_, List.getElem?_eq_getElem hil⟩
    obtain ⟨g, hg⟩ : ∃ g, gs[i]? = some g := ⟨_, List.getElem?_eq_getElem (by omega)⟩
    have hfm := List.mem_of_getElem? hf
    have hgm := List.mem_of_getElem? hg
    have hfg : f.norm = g.norm := by
      have := congrArg (fun z => z[i]?) hn
      simpa [hf, hg] using this
    have hk : f.kind = g.kind := (show f.norm.kind = g.norm.kind by rw [hfg])
    have hnn : f.n = g.n := (show f.norm.n = g.norm.n by rw [hfg])
    have hb : f.b = g.b := (show f.norm.b = g.norm.b by rw [hfg])
    have hl : f.l = g.l := (show f.norm.l = g.norm.l by rw [hfg])
    refine WC.drawRead mixed (by kernel_rfl) ?_
    refine WH.y (Yl.move rfl) rfl ?_ -- t22
    refine WH.y (Yl.move rfl) rfl ?_ -- t23
    refine WH.y (Yl.index un22 sz54 rfl rfl (Reads.s hx.rows) rfl (by omega)) rfl ?_ -- t24
    refine WH.y (Yl.fieldV fo54_0 rfl (Reads.s hx.rows) (by rw [fdV.size fdAll]; omega)) rfl ?_
    refine WH.y (Yl.loadO (u := .int .u8 f.kind) on5 rfl (Reads.s hx.rows) (cellV fdV fdAll hf (k := 0) (by decide) rfl)) rfl ?_
    refine WH.y (Yl.move rfl) rfl ?_ -- t27
    refine WH.y (Yl.move rfl) rfl ?_ -- t28
    refine WH.y (Yl.index un22 sz54 rfl rfl (Reads.s hy.rows) rfl (by omega)) rfl ?_ -- t29
    refine WH.y (Yl.fieldV fo54_0 rfl (Reads.s hy.rows) (by rw [fdV.size fdAll]; omega)) rfl ?_
    refine WH.y (Yl.loadO (u := .int .u8 g.kind) on5 rfl (Reads.s hy.rows) (cellV fdV fdAll hg (k := 0) (by decide) rfl)) rfl ?_
    refine WH.y (Yl.eql rfl rfl) rfl ?_ -- t32
    refine WH.know (t := 32) (b' := true) rfl (by simp [hk]) ?_
    refine WH.y (Yl.move rfl) rfl ?_ -- t33
    refine WH.on rfl rfl ?_
    refine WH.y (Yl.move rfl) rfl ?_ -- t34
    refine WH.on rfl rfl ?_
    refine WH.y (Yl.move rfl) rfl ?_ -- t35
    refine WH.on rfl rfl ?_
    refine WH.y (Yl.index un22 sz54 rfl rfl (Reads.s hx.rows) rfl (by omega)) rfl ?_ -- t36
    refine WH.on rfl rfl ?_
    refine WH.y (Yl.fieldV fo54_1 rfl (Reads.s hx.rows) (by rw [fdV.size fdAll]; omega)) rfl ?_
    refine WH.on rfl rfl ?_
    refine WH.y (Yl.loadO (u := .int .u64 f.n) on51 rfl (Reads.s hx.rows) (cellV fdV fdAll hf (k := 1) (by decide) rfl)) rfl ?_
    refine WH.on rfl rfl ?_
    refine WH.y (Yl.move rfl) rfl ?_ -- t39
    refine WH.on rfl rfl ?_
    refine WH.y (Yl.move rfl) rfl ?_ -- t40
    refine WH.on rfl rfl ?_
    refine WH.y (Yl.index un22 sz54 rfl rfl (Reads.s hy.rows) rfl (by omega)) rfl ?_ -- t41
    refine WH.on rfl rfl ?_
    refine WH.y (Yl.fieldV fo54_1 rfl (Reads.s hy.rows) (by rw [fdV.size fdAll]; omega)) rfl ?_
    refine WH.on rfl rfl ?_
    refine WH.y (Yl.loadO (u := .int .u64 g.n) on51 rfl (Reads.s hy.rows) (cellV fdV fdAll hg (k := 1) (by decide) rfl)) rfl ?_
    refine WH.on rfl rfl ?_
    refine WH.y (Yl.eql rfl rfl) rfl ?_ -- t44
    refine WH.know (t := 44) (b' := true) rfl (by simp [hnn]) ?_
    refine WH.y (Yl.pickT rfl rfl) rfl ?_ -- t45
    refine WH.y (Yl.move rfl) rfl ?_ -- t46
    refine WH.on rfl rfl ?_
    refine WH.y (Yl.move rfl) rfl ?_ -- t47
    refine WH.on rfl rfl ?_
    refine WH.y (Yl.move rfl) rfl ?_ -- t48
    refine WH.on rfl rfl ?_
    refine WH.y (Yl.index un22 sz54 rfl rfl (Reads.s hx.rows) rfl (by omega)) rfl ?_ -- t49
    refine WH.on rfl rfl ?_
    refine WH.y (Yl.fieldV fo54_2 rfl (Reads.s hx.rows) (by rw [fdV.size fdAll]; omega)) rfl ?_
    refine WH.on rfl rfl ?_
    refine WH.y (Yl.loadO (u := .slice f.ba f.b.length f.bc) on28 rfl (Reads.s hx.rows) (cellV fdV fdAll hf (k := 2) (by decide) rfl)) rfl ?_
    refine WH.on rfl rfl ?_
    refine WH.y (Yl.toStr un28 un5 un9 rfl (Reads.s (hx.b f hfm))) rfl ?_ -- t52
    refine WH.on rfl rfl ?_
    refine WH.y (Yl.move rfl) rfl ?_ -- t53
    refine WH.on rfl rfl ?_
    refine WH.y (Yl.move rfl) rfl ?_ -- t54
    refine WH.on rfl rfl ?_
    refine WH.y (Yl.index un22 sz54 rfl rfl (Reads.s hy.rows) rfl (by omega)) rfl ?_ -- t55
    refine WH.on rfl rfl ?_
    refine WH.y (Yl.fieldV fo54_2 rfl (Reads.s hy.rows) (by rw [fdV.size fdAll]; omega)) rfl ?_
    refine WH.on rfl rfl ?_
    refine WH.y (Yl.loadO (u := .slice g.ba g.b.length g.bc) on28 rfl (Reads.s hy.rows) (cellV fdV fdAll hg (k := 2) (by decide) rfl)) rfl ?_
    refine WH.on rfl rfl ?_
    refine WH.y (Yl.toStr un28 un5 un9 rfl (Reads.s (hy.b g hgm))) rfl ?_ -- t58
    refine WH.on rfl rfl ?_
    refine WH.y (Yl.sEq rfl rfl) rfl ?_ -- t59
    refine WH.know (t := 59) (b' := true) rfl (by rw [hb]; simp) ?_
    refine WH.y (Yl.pickT rfl rfl) rfl ?_ -- t60
    refine WH.y (Yl.move rfl) rfl ?_ -- t61
    refine WH.on rfl rfl ?_
    refine WH.y (Yl.move rfl) rfl ?_ -- t62
    refine WH.on rfl rfl ?_
    refine WH.y (Yl.move rfl) rfl ?_ -- t63
    refine WH.on rfl rfl ?_
    refine WH.y (Yl.index un22 sz54 rfl rfl (Reads.s hx.rows) rfl (by omega)) rfl ?_ -- t64
    refine WH.on rfl rfl ?_
    refine WH.y (Yl.fieldV fo54_3 rfl (Reads.s hx.rows) (by rw [fdV.size fdAll]; omega)) rfl ?_
    refine WH.on rfl rfl ?_
    refine WH.y (Yl.loadO (u := .slice f.la f.l.length f.lc) on52 rfl (Reads.s hx.rows) (cellV fdV fdAll hf (k := 3) (by decide) rfl)) rfl ?_
    refine WH.on rfl rfl ?_
    refine WH.y (Yl.len un52 rfl) rfl ?_ -- t67
    refine WH.on rfl rfl ?_
    refine WH.y (Yl.move rfl) rfl ?_ -- t68
    refine WH.on rfl rfl ?_
    refine WH.y (Yl.move rfl) rfl ?_ -- t69
    refine WH.on rfl rfl ?_
    refine WH.y (Yl.index un22 sz54 rfl rfl (Reads.s hy.rows) rfl (by omega)) rfl ?_ -- t70
    refine WH.on rfl rfl ?_
    refine WH.y (Yl.fieldV fo54_3 rfl (Reads.s hy.rows) (by rw [fdV.size fdAll]; omega)) rfl ?_
    refine WH.on rfl rfl ?_
    refine WH.y (Yl.loadO (u := .slice g.la g.l.length g.lc) on52 rfl (Reads.s hy.rows) (cellV fdV fdAll hg (k := 3) (by decide) rfl)) rfl ?_
    refine WH.on rfl rfl ?_
    refine WH.y (Yl.len un52 rfl) rfl ?_ -- t73
    refine WH.on rfl rfl ?_
    refine WH.y (Yl.eql rfl rfl) rfl ?_ -- t74
    refine WH.know (t := 74) (b' := true) rfl (by simp [hl]) ?_
    refine WH.y (Yl.pickT rfl rfl) rfl ?_ -- t75
    refine WH.y (Yl.assign rfl) rfl ?_ -- t5
    refine WH.nil ?_
    refine WC.seq ?_
    refine WC.region ?_
    refine WL.y (Yl.assign rfl) rfl ?_ -- t7
    refine WL.nil ?_
    refine WC.block ?_
    refine WC.loop (α := Nat) (fun k => [(0, .slice al fs.length cl), (1, .slice al2 gs.length cl2), (5, .bool true), (6, .int .i64 (i : Int)), (7, .int .i64 (k : Int))]) (fun _ => []) (fun k => k ≤ f.l.length) (fun k => f.l.length - k) 0 (Nat.zero_le _) ⟨(by repeat (first | exact Sub.nil | refine Sub.cons rfl ?_)), _, (by repeat (first | exact TakeL.nil | (apply TakeL.cons; · repeat (first | exact Take1.head | apply Take1.tail))))⟩ ?_
    intro k hk2
    refine WC.seq ?_
    refine WC.seq ?_
    refine WC.region ?_
    refine WL.y (Yl.move rfl) rfl ?_ -- t76
    refine WL.y (Yl.move rfl) rfl ?_ -- t77
    refine WL.y (Yl.move rfl) rfl ?_ -- t78
    refine WL.y (Yl.index un22 sz54 rfl rfl (Reads.s hx.rows) rfl (by omega)) rfl ?_ -- t79
    refine WL.y (Yl.fieldV fo54_3 rfl (Reads.s hx.rows) (by rw [fdV.size fdAll]; omega)) rfl ?_
    refine WL.y (Yl.loadO (u := .slice f.la f.l.length f.lc) on52 rfl (Reads.s hx.rows) (cellV fdV fdAll hf (k := 3) (by decide) rfl)) rfl ?_
    refine WL.y (Yl.len un52 rfl) rfl ?_ -- t82
    refine WL.y (Yl.lss rfl rfl) rfl ?_ -- t83
    refine WL.y (Yl.move rfl) rfl ?_ -- t84
    refine WL.both (t := 84) rfl (fun g84 => ?_) (fun g84 => ?_)
    · refine WL.on rfl rfl ?_
      refine WL.y (Yl.move rfl) rfl ?_ -- t85
      refine WL.y (Yl.pickT rfl rfl) rfl ?_ -- t86
      refine WL.nil ?_
      refine WC.condT rfl (by first | rfl | (simp; done) | (simp; omega)) ?_
      refine WC.skip ?_
      refine WC.seq ?_
      refine WC.block ?_
      obtain ⟨xa, xc, he, hxc, hxm⟩ := (hx.l f hfm).rd.form
      cases he
      unfold maxLen at hxm
      have hkl : k < f.l.length := by simpa using g84
      have hkg : k < g.l.length := by rw [← hl]; exact hkl
      refine WC.drawRead mixed (by kernel_rfl) ?_
      refine WH.y (Yl.move rfl) rfl ?_ -- t89
      refine WH.y (Yl.move rfl) rfl ?_ -- t90
      refine WH.y (Yl.index un22 sz54 rfl rfl (Reads.s hx.rows) rfl (by omega)) rfl ?_ -- t91
      refine WH.y (Yl.fieldV fo54_3 rfl (Reads.s hx.rows) (by rw [fdV.size fdAll]; omega)) rfl ?_
      refine WH.y (Yl.loadO (u := .slice f.la f.l.length f.lc) on52 rfl (Reads.s hx.rows) (cellV fdV fdAll hf (k := 3) (by decide) rfl)) rfl ?_
      refine WH.y (Yl.move rfl) rfl ?_ -- t94
      refine WH.y (Yl.index un52 sz49 rfl rfl (Reads.s (hx.l f hfm)) rfl (by omega)) rfl ?_ -- t95
      refine WH.y (Yl.loadE on49 rfl (Reads.s (hx.l f hfm)) (ints_get _ _ _ hkl)) rfl ?_
      refine WH.y (Yl.move rfl) rfl ?_ -- t97
      refine WH.y (Yl.move rfl) rfl ?_ -- t98
      refine WH.y (Yl.index un22 sz54 rfl rfl (Reads.s hy.rows) rfl (by omega)) rfl ?_ -- t99
      refine WH.y (Yl.fieldV fo54_3 rfl (Reads.s hy.rows) (by rw [fdV.size fdAll]; omega)) rfl ?_
      refine WH.y (Yl.loadO (u := .slice g.la g.l.length g.lc) on52 rfl (Reads.s hy.rows) (cellV fdV fdAll hg (k := 3) (by decide) rfl)) rfl ?_
      refine WH.y (Yl.move rfl) rfl ?_ -- t102
      refine WH.y (Yl.index un52 sz49 rfl rfl (Reads.s (hy.l g hgm)) rfl (by omega)) rfl ?_ -- t103
      refine WH.y (Yl.loadE on49 rfl (Reads.s (hy.l g hgm)) (ints_get _ _ _ hkg)) rfl ?_
      refine WH.y (Yl.eql rfl rfl) rfl ?_ -- t105
      refine WH.know (t := 105) (b' := true) rfl (by simp [hl]) ?_
      refine WH.y (Yl.assign rfl) rfl ?_ -- t5
      refine WH.nil ?_
      refine WC.region ?_
      refine WL.y (Yl.move rfl) rfl ?_ -- t87
      refine WL.y (Yl.add rfl rfl (IntWalk.i64_in _ (by omega))) rfl ?_ -- t88
      refine WL.y (Yl.assign rfl) rfl ?_ -- t7
      refine WL.nil ?_
      exact ⟨rfl, k + 1, by omega, by omega, (by repeat (first | exact Sub.nil | refine Sub.cons rfl ?_)), _, (by repeat (first | exact TakeL.nil | (apply TakeL.cons; · repeat (first | exact Take1.head | apply Take1.tail))))⟩
    · refine WL.off rfl rfl rfl rfl ?_ -- t85
      refine WL.y (Yl.pickF rfl rfl) rfl ?_ -- t86
      refine WL.nil ?_
      refine WC.condF rfl (by first | rfl | (simp; done) | (simp; omega)) ?_
      refine WC.exit ?_
      refine WC.region ?_
      refine WL.y (Yl.move rfl) rfl ?_ -- t20
      refine WL.y (Yl.add rfl rfl (IntWalk.i64_in _ (by omega))) rfl ?_ -- t21
      refine WL.y (Yl.assign rfl) rfl ?_ -- t6
      refine WL.nil ?_
      exact ⟨rfl, i + 1, by omega, by omega, (by repeat (first | exact Sub.nil | refine Sub.cons rfl ?_)), _, (by repeat (first | exact TakeL.nil | (apply TakeL.cons; · repeat (first | exact Take1.head | apply Take1.tail))))⟩
  · refine WL.off rfl rfl rfl rfl ?_ -- t18
    refine WL.y (Yl.pickF rfl rfl) rfl ?_ -- t19
    refine WL.nil ?_
    refine WC.condF rfl (by first | rfl | (simp; done) | (simp; omega)) ?_
    refine WC.exit ?_
    refine WC.seq ?_
    refine WC.region ?_
    refine WL.y (Yl.move rfl) rfl ?_ -- t106
    refine WL.y (Yl.assign rfl) rfl ?_ -- t4
    refine WL.nil ?_
    refine WC.ret ?_
    repeat (first | (with_reducible refine peelT ?_) | (with_reducible refine peelB ?_) | (with_reducible refine peelTX ?_) | (with_reducible refine peelBX ?_) | (with_reducible refine peelBN ?_) | (with_reducible refine peelBO rfl ?_))
    exact ret1 (.inr rfl) Try.results17 rfl fun w' h => ⟨(), trivial, rfl, h.sub (by repeat (first | exact TakeL.nil | (apply TakeL.cons; · repeat (first | exact Take1.head | apply Take1.tail))))⟩

set_option maxRecDepth 100000 in
theorem wireTakes_any (bs : List Int) (bv : Value) (hBs : Bytes bs) (fs : List Fd) (v : Value) (r : Res) (hF : FdOf r v fs) (hok : ∀ f ∈ fs, f.ok) (hsz : ∀ f ∈ fs, f.b.length ≤ 140737488355328 ∧ f.l.length ≤ 140737488355328) (w : World) (hw : OK w (fpL [rdR bv 1 bs.length (ints .u8 bs), r]) [rdR bv 1 bs.length (ints .u8 bs), r] w) :
    Fn Try.prog 4 [bv, v] [rdR bv 1 bs.length (ints .u8 bs), r] w (fun _ : Unit => True) (fun _ => .bool true) (fun _ => []) := by
  obtain ⟨al, cl, rfl, hcl, hml⟩ := (hw.get .head : Rd _ _ _ _ _).form
  refine enterF Try.func4 rfl Try.ntmps4 rfl hw ?_
  refine WC.seq ?_
  refine WC.region ?_
  refine WL.y (Yl.assign rfl) rfl ?_ -- t4
  refine WL.nil ?_
  refine WC.seq ?_
  refine WC.seq ?_
  refine WC.region ?_
  refine WL.callC (xs := []) (cap := []) rfl rfl en6 (by repeat (first | exact TakeL.nil | (apply TakeL.cons; · repeat (first | exact Take1.head | apply Take1.tail)))) (fun w hw => wknown_any w hw.left.here) rfl ?_ -- t10 hailer/hailerlaw08.known
  rintro ⟨⟩ -
  refine WL.y (Yl.not rfl) rfl ?_ -- t11
  refine WL.nil ?_
  refine WC.condF rfl (by first | rfl | (simp; done) | (simp; omega)) ?_
  refine WC.skip ?_
  refine WC.seq ?_
  refine WC.seq ?_
  refine WC.region ?_
  refine WL.y (Yl.move rfl) rfl ?_ -- t12
  refine WL.callC (xs := [.tmp 12]) (cap := []) rfl rfl en7 (by repeat (first | exact TakeL.nil | (apply TakeL.cons; · repeat (first | exact Take1.head | apply Take1.tail)))) (fun w hw => great_any fs v hsz w (hw.srcF (A := []) hF (by repeat (first | exact Take1.head | apply Take1.tail))) hw.left.here) rfl ?_ -- t13 hailer/hailerref08.Great
  rintro ⟨⟩ -
  refine WL.y (Yl.move rfl) rfl ?_ -- t14
  refine WL.both (t := 14) rfl (fun g14 => ?_) (fun g14 => ?_)
  · refine WL.off rfl rfl rfl rfl ?_ -- t15
    refine WL.off rfl rfl rfl rfl ?_ -- t16
    refine WL.off rfl rfl rfl rfl ?_ -- t17
    refine WL.y (Yl.pickT rfl rfl) rfl ?_ -- t18
    refine WL.nil ?_
    refine WC.condT rfl (by first | rfl | (simp; done) | (simp; omega)) ?_
    refine WC.seq ?_
    refine WC.region ?_
    refine WL.y (Yl.assign rfl) rfl ?_ -- t4
    refine WL.nil ?_
    refine WC.ret ?_
    repeat (first | (with_reducible refine peelT ?_) | (with_reducible refine peelB ?_) | (with_reducible refine peelTX ?_) | (with_reducible refine peelBX ?_) | (with_reducible refine peelBN ?_) | (with_reducible refine peelBO rfl ?_))
    exact ret1 (.inr rfl) Try.results4 rfl fun w' h => ⟨(), trivial, rfl, h.sub (by repeat (first | exact TakeL.nil | (apply TakeL.cons; · repeat (first | exact Take1.head | apply Take1.tail))))⟩
  · refine WL.on rfl rfl ?_
    refine WL.y (Yl.move rfl) rfl ?_ -- t15
    refine WL.on rfl rfl ?_
    refine WL.y (Yl.len un28 rfl) rfl ?_ -- t16
    refine WL.on rfl rfl ?_
    refine WL.y (Yl.gtr rfl rfl) rfl ?_ -- t17
    refine WL.y (Yl.pickF rfl rfl) rfl ?_ -- t18
    refine WL.nil ?_
    refine WC.condD rfl (fun g18 => ?_) (fun g18 => ?_)
    · refine WC.seq ?_
      refine WC.region ?_
      refine WL.y (Yl.assign rfl) rfl ?_ -- t4
      refine WL.nil ?_
      refine WC.ret ?_
      repeat (first | (with_reducible refine peelT ?_) | (with_reducible refine peelB ?_) | (with_reducible refine peelTX ?_) | (with_reducible refine peelBX ?_) | (with_reducible refine peelBN ?_) | (with_reducible refine peelBO rfl ?_))
      exact ret1 (.inr rfl) Try.results4 rfl fun w' h => ⟨(), trivial, rfl, h.sub (by repeat (first | exact TakeL.nil | (apply TakeL.cons; · repeat (first | exact Take1.head | apply Take1.tail))))⟩
    · refine WC.skip ?_
      refine WC.seq ?_
      have hwt0 : ¬ 3000 < wts fs := by simpa using g14
      have hwt : wts fs ≤ 3000 := by omega
      have hb2 : bs.length ≤ 20000 := by omega
      have hzs := szs_wts fs
      have hlw := len_wts fs
      refine WC.region ?_
      refine WL.to (To.buildSlice (vs := []) un28 zs5 rfl rfl (by simp [Value.cells]) (by decide) (by decide)) rfl ?_ -- t19
      intro b19
      refine WL.view (fun w h => h.blkOwn (b := b19) (size := 1) (n := 0) (by repeat (first | exact Take1.head | apply Take1.tail)) (by unfold maxLen; omega) rfl) ?_
      refine WL.y (Yl.move rfl) rfl ?_ -- t20
      refine WL.to (To.append sl28 rfl rfl (by repeat (first | exact Take1.head | apply Take1.tail)) (Reads.of (r := rdR (.slice al bs.length cl) 1 bs.length (ints .u8 bs)) RdOf.rd' (by repeat (first | exact Take1.head | apply Take1.tail))) (ints_one _ _) (Nat.zero_add bs.length) (show _ = ints .u8 bs from rfl) (by unfold maxLen; omega) (by omega)) rfl ?_ -- t21
      rintro ⟨⟨ao21, c21⟩, hc21⟩
      dsimp only at hc21 ⊢
      refine WL.y (Yl.assign rfl) rfl ?_ -- t5
      refine WL.nil ?_
      refine WC.seq ?_
      refine WC.region ?_
      refine WL.y (Yl.move rfl) rfl ?_ -- t22
      refine WL.callC (xs := [.tmp 22]) (cap := []) rfl rfl en12 (by repeat (first | exact TakeL.nil | (apply TakeL.cons; · repeat (first | exact Take1.head | apply Take1.tail)))) (fun w hw => newIn_any (.slice ao21 bs.length c21) bs (by omega) w (hw.src (A := []) (r := ownR (.slice ao21 bs.length c21) 5 1 bs.length (ints .u8 bs)) RdOf.own (by repeat (first | exact Take1.head | apply Take1.tail))) hw.left.here) rfl ?_ -- t23 hailer/wire.NewIn
      rintro ⟨b23, a23, c23⟩ hc23
      dsimp only at hc23 ⊢
      refine WL.y (Yl.assign rfl) rfl ?_ -- t6
      refine WL.nil ?_
      refine WC.seq ?_
      refine WC.region ?_
      refine WL.y (Yl.move rfl) rfl ?_ -- t24
      refine WL.y (Yl.move rfl) rfl ?_ -- t25
      refine WL.callC (xs := [.tmp 24, .tmp 25]) (cap := []) rfl rfl en13 (by repeat (first | exact TakeL.nil | (apply TakeL.cons; · repeat (first | exact Take1.head | apply Take1.tail)))) (fun w hw => ltake_any fs v hok (by omega) b23 a23 c23 bs false (ownR (.slice a23 bs.length c23) 5 1 bs.length (ints .u8 bs)) RdOf.own hc23 hBs w (hw.srcF hF (by repeat (first | exact Take1.head | apply Take1.tail))) hw.left.here) rfl ?_ -- t26 hailer/hailerlaw08.take
      rintro ⟨⟨a26, c26⟩, ⟨ao26, co26⟩, gs, G⟩ ⟨hgf, hgn⟩
      dsimp only at hgf hgn ⊢
      refine WL.y (Yl.assign rfl) rfl ?_ -- t7
      refine WL.nil ?_
      refine WC.seq ?_
      refine WC.region ?_
      refine WL.y (Yl.move rfl) rfl ?_ -- t27
      refine WL.say (t := 27) (v' := subS (.slice ao21 bs.length c21) 0 bs.length c21 1) rfl (by (refine congrArg (fun z => Value.slice z bs.length c21) ?_; split; rfl; cases ao21 <;> simp [Addr.add])) ?_
      refine WL.eff (Eff.clear sl28 (by simp [Value.cells]; rfl) rfl (by repeat (first | exact Take1.head | apply Take1.tail)) (Nat.zero_le _) rfl) ?_
      refine WL.nil ?_
      refine WC.seq ?_
      refine WC.region ?_
      refine WL.y (Yl.move rfl) rfl ?_ -- t29
      refine WL.y (Yl.move rfl) rfl ?_ -- t30
      refine WL.callC (xs := [.tmp 29, .tmp 30]) (cap := []) rfl rfl en14 (by repeat (first | exact TakeL.nil | (apply TakeL.cons; · repeat (first | exact Take1.head | apply Take1.tail)))) (fun w hw => rtake_any fs v (by omega) (fun f hf => (hsz f hf).1) (rdR (.slice al bs.length cl) 1 bs.length (ints .u8 bs)) al cl bs RdOf.rd' hcl (by omega) hBs w (hw.srcF hF (by repeat (first | exact Take1.head | apply Take1.tail))) hw.left.here) rfl ?_ -- t31 hailer/hailerref08.Take
      rintro ⟨⟨a31, c31⟩, hs, G2⟩ hq
      dsimp only at hq ⊢
      refine WL.y (Yl.move rfl) rfl ?_ -- t28
      refine WL.y (Yl.extract rfl rfl) rfl ?_ -- t32
      refine WL.y (Yl.extract rfl rfl) rfl ?_ -- t33
      refine WL.y (Yl.assign rfl) rfl ?_ -- t8
      refine WL.y (Yl.assign rfl) rfl ?_ -- t9
      refine WL.nil ?_
      refine WC.seq ?_
      refine WC.seq ?_
      refine WC.region ?_
      refine WL.y (Yl.move rfl) rfl ?_ -- t34
      refine WL.y (Yl.lss rfl rfl) rfl ?_ -- t35
      refine WL.nil ?_
      refine WC.condD rfl (fun g35 => ?_) (fun g35 => ?_)
      · refine WC.seq ?_
        have hW : (tks fs bs false).2.2 = true := by
          cases hW : (tks fs bs false).2.2 with
          | true => rfl
          | false => rw [hW] at g35; simp at g35; omega
        rw [hW]
        refine WC.region ?_
        refine WL.y (Yl.move rfl) rfl ?_ -- t36
        refine WL.callC (xs := [.tmp 36]) (cap := []) rfl rfl en15 (by repeat (first | exact TakeL.nil | (apply TakeL.cons; · repeat (first | exact Take1.head | apply Take1.tail)))) (fun w hw => left_any b23 a26 c26 (tks fs bs false).2.1 true w hw.left.here) rfl ?_ -- t37 (*hailer/wire.In).Left
        rintro ⟨⟩ -
        refine WL.y (Yl.eql rfl rfl) rfl ?_ -- t38
        refine WL.know (t := 38) (b' := true) rfl (by first | rfl | (simp; done) | (simp; omega)) ?_
        refine WL.y (Yl.move rfl) rfl ?_ -- t39
        refine WL.on rfl rfl ?_
        refine WL.y (Yl.move rfl) rfl ?_ -- t40
        refine WL.on rfl rfl ?_
        refine WL.callC (xs := [.tmp 40]) (cap := []) rfl rfl en16 (by repeat (first | exact TakeL.nil | (apply TakeL.cons; · repeat (first | exact Take1.head | apply Take1.tail)))) (fun w hw => inEnd_any b23 a26 c26 (tks fs bs false).2.1 true w hw.left.here) rfl ?_ -- t41 (*hailer/wire.In).End
        rintro ⟨⟩ -
        refine WL.on rfl rfl ?_
        refine WL.y (Yl.eql rfl rfl) rfl ?_ -- t42
        refine WL.know (t := 42) (b' := true) rfl (by simp [endE]) ?_
        refine WL.y (Yl.pickT rfl rfl) rfl ?_ -- t43
        refine WL.y (Yl.assign rfl) rfl ?_ -- t4
        refine WL.nil ?_
        refine WC.ret ?_
        repeat (first | (with_reducible refine peelT ?_) | (with_reducible refine peelB ?_) | (with_reducible refine peelTX ?_) | (with_reducible refine peelBX ?_) | (with_reducible refine peelBN ?_) | (with_reducible refine peelBO rfl ?_))
        exact ret1 (.inr rfl) Try.results4 rfl fun w' h => ⟨(), trivial, rfl, h.sub (by repeat (first | exact TakeL.nil | (apply TakeL.cons; · repeat (first | exact Take1.head | apply Take1.tail))))⟩
      · refine WC.skip ?_
        refine WC.seq ?_
        have hW : (tks fs bs false).2.2 = false := by
          cases hW : (tks fs bs false).2.2 with
          | false => rfl
          | true => rw [hW] at g35; simp at g35
        obtain ⟨hq1, hq2⟩ := hq hW
        rw [hW]
        refine WC.region ?_
        refine WL.y (Yl.move rfl) rfl ?_ -- t44
        refine WL.y (Yl.move rfl) rfl ?_ -- t45
        refine WL.callC (xs := [.tmp 44, .tmp 45]) (cap := []) rfl rfl en17 (by repeat (first | exact TakeL.nil | (apply TakeL.cons; · repeat (first | exact Take1.head | apply Take1.tail)))) (fun w hw => same_any gs hs _ _ (hgn.trans hq2.symm) w (hw.srcF (A := []) hgf (by repeat (first | exact Take1.head | apply Take1.tail))) (hw.srcF (A := []) hq1 (by repeat (first | exact Take1.head | apply Take1.tail))) hw.left.here) rfl ?_ -- t46 hailer/hailerref08.Same
        rintro ⟨⟩ -
        refine WL.know (t := 46) (b' := true) rfl (by first | rfl | (simp; done) | (simp; omega)) ?_
        refine WL.y (Yl.move rfl) rfl ?_ -- t47
        refine WL.on rfl rfl ?_
        refine WL.y (Yl.move rfl) rfl ?_ -- t48
        refine WL.on rfl rfl ?_
        refine WL.callC (xs := [.tmp 48]) (cap := []) rfl rfl en15 (by repeat (first | exact TakeL.nil | (apply TakeL.cons; · repeat (first | exact Take1.head | apply Take1.tail)))) (fun w hw => left_any b23 a26 c26 (tks fs bs false).2.1 false w hw.left.here) rfl ?_ -- t49 (*hailer/wire.In).Left
        rintro ⟨⟩ -
        refine WL.on rfl rfl ?_
        refine WL.y (Yl.move rfl) rfl ?_ -- t50
        refine WL.on rfl rfl ?_
        refine WL.y (Yl.eql rfl rfl) rfl ?_ -- t51
        refine WL.know (t := 51) (b' := true) rfl (by first | rfl | (simp; done) | (simp; omega)) ?_
        refine WL.y (Yl.pickT rfl rfl) rfl ?_ -- t52
        refine WL.y (Yl.move rfl) rfl ?_ -- t53
        refine WL.on rfl rfl ?_
        refine WL.y (Yl.move rfl) rfl ?_ -- t54
        refine WL.on rfl rfl ?_
        refine WL.callC (xs := [.tmp 54]) (cap := []) rfl rfl en16 (by repeat (first | exact TakeL.nil | (apply TakeL.cons; · repeat (first | exact Take1.head | apply Take1.tail)))) (fun w hw => inEnd_any b23 a26 c26 (tks fs bs false).2.1 false w hw.left.here) rfl ?_ -- t55 (*hailer/wire.In).End
        rintro ⟨⟩ -
        refine WL.on rfl rfl ?_
        refine WL.y (Yl.eql rfl rfl) rfl ?_ -- t56
        refine WL.on rfl rfl ?_
        refine WL.y (Yl.move rfl) rfl ?_ -- t57
        refine WL.on rfl rfl ?_
        refine WL.y (Yl.eql rfl rfl) rfl ?_ -- t58
        refine WL.on rfl rfl ?_
        refine WL.y (Yl.bEq un4 rfl rfl) rfl ?_ -- t59
        refine WL.know (t := 59) (b' := true) rfl (by unfold endE; cases h0 : (tks fs bs false).2.1 <;> simp [h0] <;> omega) ?_
        refine WL.y (Yl.pickT rfl rfl) rfl ?_ -- t60
        refine WL.y (Yl.assign rfl) rfl ?_ -- t4
        refine WL.nil ?_
        refine WC.ret ?_
        repeat (first | (with_reducible refine peelT ?_) | (with_reducible refine peelB ?_) | (with_reducible refine peelTX ?_) | (with_reducible refine peelBX ?_) | (with_reducible refine peelBN ?_) | (with_reducible refine peelBO rfl ?_))
        exact ret1 (.inr rfl) Try.results4 rfl fun w' h => ⟨(), trivial, rfl, h.sub (by repeat (first | exact TakeL.nil | (apply TakeL.cons; · repeat (first | exact Take1.head | apply Take1.tail))))⟩
end Go.Proofs.Ytahkaepmfnmhcaa
