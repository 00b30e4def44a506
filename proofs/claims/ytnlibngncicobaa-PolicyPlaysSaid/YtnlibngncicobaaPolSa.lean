/- Policies: one like the document's: the walk; PolicyLoads: the law. -/
import Derived.Test.YtnlibngncicobaaPolRl
import Derived.Test.YtnlibngncicobaaPolM
namespace Go.Proofs.Ytnlibngncicobaa
open Go Go.RowKit
def rvLeaf : List Leaf := [some .u8, some .u16, some .u16, some .u8, none]
theorem wvU8 {n : Int} (h : 0 ≤ n ∧ n < 256) : (Lit.int .u8 n).wf = true := by
  rw [Lit.wf_int_iff]; have e1 : IntKind.u8.min = 0 := by decide
  have e2 : IntKind.u8.max = 255 := by decide
  rw [e1, e2]; omega
theorem wvU16 {n : Int} (h : 0 ≤ n ∧ n < 65536) : (Lit.int .u16 n).wf = true := by
  rw [Lit.wf_int_iff]; have e1 : IntKind.u16.min = 0 := by decide
  have e2 : IntKind.u16.max = 65535 := by decide
  rw [e1, e2]; omega
theorem Ru.ok.fitv {r : Ru} (h : r.ok) : Fits1 rvLeaf r.cells := ⟨⟨rfl, wvU8 h.acc⟩, ⟨rfl, wvU16 h.fr⟩, ⟨rfl, wvU16 h.tt⟩, ⟨rfl, wvU8 h.dO⟩, trivial, trivial⟩
theorem flRv : Flat Try.prog 27 rvLeaf := Flat.mk' 5 (by decide) (by kernel_rfl) (by kernel_rfl)
set_option maxRecDepth 100000 in
set_option maxHeartbeats 1000000 in
theorem same_any (b : Nat) (ao : Option Addr) (ca : Nat) (b2 : Nat) (ao2 : Option Addr) (ca2 : Nat) (p q : Po) (hp : p.ok) (hql : q.rl = p.rl) (hqd : q.df = p.df) (w : World) (hw : OK w (fpL [roR (blkR b 80 (p.cells (.slice ao p.rl.length ca))), rdR (.slice ao p.rl.length ca) 5 p.rl.length (vcs ruV p.rl), roR (blkR b2 42 (q.rcells (.slice ao2 p.rl.length ca2))), rdR (.slice ao2 p.rl.length ca2) 5 p.rl.length (vcs ruV p.rl)]) [roR (blkR b 80 (p.cells (.slice ao p.rl.length ca))), rdR (.slice ao p.rl.length ca) 5 p.rl.length (vcs ruV p.rl), roR (blkR b2 42 (q.rcells (.slice ao2 p.rl.length ca2))), rdR (.slice ao2 p.rl.length ca2) 5 p.rl.length (vcs ruV p.rl)] w) :
    Fn Try.prog 27 [.pointer (some ⟨b, 0, none⟩), .pointer (some ⟨b2, 0, none⟩)] [roR (blkR b 80 (p.cells (.slice ao p.rl.length ca))), rdR (.slice ao p.rl.length ca) 5 p.rl.length (vcs ruV p.rl), roR (blkR b2 42 (q.rcells (.slice ao2 p.rl.length ca2))), rdR (.slice ao2 p.rl.length ca2) 5 p.rl.length (vcs ruV p.rl)] w (fun _ : Unit => True) (fun _ => .bool true) (fun _ => []) := by
  have hro := UOk.of hp
  have hln := hp.len
  obtain ⟨_, _, he, hcl, hml⟩ := (hw.get (r := rdR (.slice ao2 p.rl.length ca2) 5 p.rl.length (vcs ruV p.rl)) (.tail (.tail (.tail .head))) : Rd _ _ _ _ _).form
  cases he
  have hqb : polB q = polB p := by unfold polB; rw [hql, hqd]
  have hqr := rbytes_any b2 ao2 ca2 q (by rw [hql]; exact hro) (by rw [hql]; exact hln)
  rw [hql, hqb] at hqr
  refine enterM Try.func27 rfl Try.ntmps27 rfl hw ?_
  refine WC.seq ?_
  refine WC.region ?_
  refine WL.to (To.box (cs := [.pointer (some ⟨b2, 0, none⟩)]) rfl rfl) rfl ?_
  intro b3
  refine WL.to (To.alloc (cs := [.bool false]) zr4 rfl) rfl ?_
  intro b4
  refine WL.nil ?_
  refine WC.seq ?_
  refine WC.region ?_
  refine WL.to (To.alloc (cs := [.int .i64 0]) zr3 rfl) rfl ?_
  intro b5
  refine WL.sto (Sto.one sz3 rfl rfl (by repeat (first | exact Take1.head | apply Take1.tail)) rfl (by rfl) (by rfl)) (fun _ h => nomatch h) ?_
  refine WL.nil ?_
  refine WC.seq ?_
  refine WC.seq ?_
  refine WC.region ?_
  refine WL.y (Yl.move rfl) rfl ?_
  refine WL.view (fun w h => h.dup (r := roR (blkR b 80 (p.cells (.slice ao p.rl.length ca)))) (by repeat (first | exact Take1.head | apply Take1.tail)) (fun _ h => h)) ?_
  refine WL.view (fun w h => h.dup (r := rdR (.slice ao p.rl.length ca) 5 p.rl.length (vcs ruV p.rl)) (by repeat (first | exact Take1.head | apply Take1.tail)) (fun _ h => h)) ?_
  refine WL.callC (xs := [.tmp 8]) (cap := []) rfl rfl en32 (by repeat (first | exact TakeL.nil | (apply TakeL.cons; · repeat (first | exact Take1.head | apply Take1.tail)))) (fun w hw => rules_any b ao ca p hro (by omega) w hw.left.here) rfl ?_
  rintro ⟨bn, own⟩ -
  dsimp only [List.cons_append, List.nil_append]
  refine WL.nil ?_
  refine WC.block ?_
  refine WC.range (α := Unit) (xs := yrU p.rl) (fun i _ => [blkR b3 37 [.pointer (some ⟨b2, 0, none⟩)], blkR b4 4 [.bool false], blkR b5 3 [.int .i64 (i : Int)], roR (blkR b 80 (p.cells (.slice ao p.rl.length ca))), rdR (.slice ao p.rl.length ca) 5 p.rl.length (vcs ruV p.rl), roR (blkR b2 42 (q.rcells (.slice ao2 p.rl.length ca2))), rdR (.slice ao2 p.rl.length ca2) 5 p.rl.length (vcs ruV p.rl)]) (fun _ _ => True) () rfl en71 yrU_size rfl (by repeat (first | exact Take1.head | apply Take1.tail)) trivial (by repeat (first | exact TakeL.nil | (apply TakeL.cons; · repeat (first | exact Take1.head | apply Take1.tail)))) ?_ ?_
  · intro l i x _ hx _ W
    obtain ⟨x, hx0, rfl⟩ := yrU_at hx
    have hxo : x.ok := hro.get hx0
    have hil := (List.getElem?_eq_some_iff.1 hx0).1
    show WC _ _ _ ((11, .agg x.cells.toArray) :: (10, .int .i64 (i : Int)) :: _) _ _
    refine WC.seq ?_
    refine WC.region ?_
    refine WL.y (Yl.assign rfl) rfl ?_
    refine WL.nil ?_
    refine WC.region ?_
    refine WL.to (To.alloc (cs := Ru.zero.cells) zr24 rfl) rfl ?_
    intro b7
    refine WL.sto (Sto.agg sz24 rfl rfl (by repeat (first | exact Take1.head | apply Take1.tail)) (Ru.ones _) (Ru.len x) (by rfl) (Ru.all Ru.zero x.cells (Ru.len x))) (fun _ h => nomatch h) ?_
    refine WL.nil ?_
    repeat (first | (with_reducible refine peelT ?_) | (with_reducible refine peelB ?_) | (with_reducible refine peelTX ?_) | (with_reducible refine peelBX ?_) | (with_reducible refine peelBN ?_) | (with_reducible refine peelBO rfl ?_))
    refine fun W2 => ?_
    refine WC.block ?_
    refine WC.seq ?_
    refine WC.seq ?_
    refine WC.drawRead mixed (by kernel_rfl) ?_
    refine WH.y (Yl.move rfl) rfl ?_
    refine WH.y (Yl.load on3 rfl (by repeat (first | exact Take1.head | apply Take1.tail)) (by rfl)) rfl ?_
    refine WH.y (Yl.neq rfl rfl) rfl ?_
    refine WH.know (t := 14) (b' := false) rfl (by first | rfl | (simp; done) | (simp; omega)) ?_
    refine WH.y (Yl.move rfl) rfl ?_
    refine WH.on rfl rfl ?_
    refine WH.y (Yl.load on3 rfl (by repeat (first | exact Take1.head | apply Take1.tail)) (by rfl)) rfl ?_
    refine WH.on rfl rfl ?_
    refine WH.y (Yl.load on37 rfl (by repeat (first | exact Take1.head | apply Take1.tail)) (by rfl)) rfl ?_
    refine WH.on rfl rfl ?_
    refine WH.y (Yl.nilCheck rfl) rfl ?_
    refine WH.on rfl rfl ?_
    refine WH.y (Yl.field fo42_1 rfl) rfl ?_
    refine WH.on rfl rfl ?_
    refine WH.y (Yl.loadRo on38 rfl (by repeat (first | exact Take1.head | apply Take1.tail)) (by rfl)) rfl ?_
    refine WH.on rfl rfl ?_
    refine WH.y (Yl.len un38 rfl) rfl ?_
    refine WH.on rfl rfl ?_
    refine WH.y (Yl.geq rfl rfl) rfl ?_
    refine WH.know (t := 22) (b' := false) rfl (by apply decide_eq_false; omega) ?_
    refine WH.y (Yl.pickF rfl rfl) rfl ?_
    refine WH.y (Yl.move rfl) rfl ?_
    refine WH.on rfl rfl ?_
    refine WH.y (Yl.loadN ag24 rfl (by repeat (first | exact Take1.head | apply Take1.tail)) (by rfl) (Ru.call x)) rfl ?_
    refine WH.on rfl rfl ?_
    refine WH.y (Yl.load on37 rfl (by repeat (first | exact Take1.head | apply Take1.tail)) (by rfl)) rfl ?_
    refine WH.on rfl rfl ?_
    refine WH.y (Yl.nilCheck rfl) rfl ?_
    refine WH.on rfl rfl ?_
    refine WH.y (Yl.field fo42_1 rfl) rfl ?_
    refine WH.on rfl rfl ?_
    refine WH.y (Yl.loadRo on38 rfl (by repeat (first | exact Take1.head | apply Take1.tail)) (by rfl)) rfl ?_
    refine WH.on rfl rfl ?_
    refine WH.y (Yl.load on3 rfl (by repeat (first | exact Take1.head | apply Take1.tail)) (by rfl)) rfl ?_
    refine WH.on rfl rfl ?_
    refine WH.y (Yl.index un38 sz27 rfl rfl (Reads.of (r := rdR (.slice ao2 p.rl.length ca2) 5 p.rl.length (vcs ruV p.rl)) RdOf.rd' (by repeat (first | exact Take1.head | apply Take1.tail))) rfl (by omega)) rfl ?_
    refine WH.on rfl rfl ?_
    refine WH.y (Yl.loadV (j := i) (u := x) vtR hro rfl (Reads.of (r := rdR (.slice ao2 p.rl.length ca2) 5 p.rl.length (vcs ruV p.rl)) RdOf.rd' (by repeat (first | exact Take1.head | apply Take1.tail))) rfl hx0) rfl ?_
    refine WH.on rfl rfl ?_
    refine WH.y (Yl.neA flRv rfl rfl hxo.fitv hxo.fitv) rfl ?_
    refine WH.know (t := 33) (b' := false) rfl (by rw [eqV_self]; rfl) ?_
    refine WH.y (Yl.pickF rfl rfl) rfl ?_
    refine WH.nil ?_
    refine WC.condF rfl (by first | rfl | (simp; done) | (simp; omega)) ?_
    refine WC.skip ?_
    refine WC.region ?_
    refine WL.y (Yl.load on3 rfl (by repeat (first | exact Take1.head | apply Take1.tail)) (by rfl)) rfl ?_
    refine WL.y (Yl.add rfl rfl (IntWalk.i64_in _ (by omega))) rfl ?_
    refine WL.sto (Sto.one sz3 rfl rfl (by repeat (first | exact Take1.head | apply Take1.tail)) rfl (by rfl) (by rfl)) (fun _ h => nomatch h) ?_
    refine WL.nil ?_
    repeat (first | (with_reducible refine peelT ?_) | (with_reducible refine peelB ?_) | (with_reducible refine peelTX ?_) | (with_reducible refine peelBX ?_) | (with_reducible refine peelBN ?_) | (with_reducible refine peelBO rfl ?_))
    exact ⟨[blkR b3 37 [.pointer (some ⟨b2, 0, none⟩)], blkR b4 4 [.bool false], blkR b5 3 [.int .i64 ((i + 1 : Nat) : Int)], roR (blkR b 80 (p.cells (.slice ao p.rl.length ca))), rdR (.slice ao p.rl.length ca) 5 p.rl.length (vcs ruV p.rl), roR (blkR b2 42 (q.rcells (.slice ao2 p.rl.length ca2))), rdR (.slice ao2 p.rl.length ca2) 5 p.rl.length (vcs ruV p.rl)], _, (by repeat (first | exact TakeL.nil | (apply TakeL.cons; · repeat (first | exact Take1.head | apply Take1.tail)))), (), trivial, rfl⟩
  · rintro _ D -
    rw [yrU_len]
    dsimp only [List.cons_append, List.nil_append]
    refine WC.seq ?_
    refine WC.view (fun w h => h.dup (r := roR (blkR b2 42 (q.rcells (.slice ao2 p.rl.length ca2)))) (by repeat (first | exact Take1.head | apply Take1.tail)) (fun _ h => h)) ?_
    refine WC.drawAny (Hs := [blkR b3 37 [.pointer (some ⟨b2, 0, none⟩)], blkR b5 3 [.int .i64 (p.rl.length : Int)], roR (blkR b2 42 (q.rcells (.slice ao2 p.rl.length ca2)))]) mixed (by kernel_rfl) ⟨_, (by repeat (first | exact TakeL.nil | (apply TakeL.cons; · repeat (first | exact Take1.head | apply Take1.tail))))⟩ ?_
    refine WD.take 0 rfl (by kernel_rfl) (by kernel_rfl) (by kernel_rfl) rfl rfl (Yl.load on3 rfl (by repeat (first | exact Take1.head | apply Take1.tail)) (by rfl)) rfl ?_
    refine WD.take 1 rfl (by kernel_rfl) (by kernel_rfl) (by kernel_rfl) rfl rfl (Yl.load on37 rfl (by repeat (first | exact Take1.head | apply Take1.tail)) (by rfl)) rfl ?_
    refine WD.take 2 rfl (by kernel_rfl) (by kernel_rfl) (by kernel_rfl) rfl rfl (Yl.nilCheck rfl) rfl ?_
    refine WD.take 3 rfl (by kernel_rfl) (by kernel_rfl) (by kernel_rfl) rfl rfl (Yl.field fo42_1 rfl) rfl ?_
    refine WD.take 4 rfl (by kernel_rfl) (by kernel_rfl) (by kernel_rfl) rfl rfl (Yl.loadRo on38 rfl (by repeat (first | exact Take1.head | apply Take1.tail)) (by rfl)) rfl ?_
    refine WD.take 5 rfl (by kernel_rfl) (by kernel_rfl) (by kernel_rfl) rfl rfl (Yl.len un38 rfl) rfl ?_
    refine WD.take 6 rfl (by kernel_rfl) (by kernel_rfl) (by kernel_rfl) rfl rfl (Yl.eql rfl rfl) rfl ?_
    refine WD.know (t := 43) (b' := true) rfl (by first | rfl | (simp; done) | (simp; omega)) ?_
    refine WD.take 7 rfl (by kernel_rfl) (by kernel_rfl) (by kernel_rfl) rfl rfl (Yl.move rfl) rfl ?_
    refine WD.know (t := 44) (b' := true) rfl (by first | rfl | (simp; done) | (simp; omega)) ?_
    refine WD.takeOn 8 rfl (by kernel_rfl) (by kernel_rfl) (by kernel_rfl) rfl rfl rfl rfl (Yl.move rfl) rfl ?_
    refine WD.takeOn 11 rfl (by kernel_rfl) (by kernel_rfl) (by kernel_rfl) rfl rfl rfl rfl (Yl.load on37 rfl (by repeat (first | exact Take1.head | apply Take1.tail)) (by rfl)) rfl ?_
    refine WD.one 9 (by kernel_rfl) ?_
    refine WO.callC (xs := [.tmp 45]) (cap := []) rfl (.on rfl rfl) rfl rfl en24 (by repeat (first | exact TakeL.nil | (apply TakeL.cons; · repeat (first | exact Take1.head | apply Take1.tail)))) (fun w hw => bytesP_any b ao ca p hp w hw.left.here) rfl (fun _ => ⟨_, (by repeat (first | exact TakeL.nil | (apply TakeL.cons; · repeat (first | exact Take1.head | apply Take1.tail))))⟩) ?_
    rintro ⟨a46, c46⟩ -
    dsimp only
    refine WD.two 10 12 (by kernel_rfl) ?_ ?_
    · refine WO.y rfl rfl (.on rfl rfl) (Yl.toStr un55 un5 un9 rfl (Reads.of (RdOf.own (v := .slice a46 (polB p).length c46) (e := 5) (cs := ints .u8 (polB p))) (by repeat (first | exact Take1.head | apply Take1.tail)))) rfl ?_
      refine WD.one 12 (by kernel_rfl) ?_
      refine WO.callC (xs := [.tmp 48]) (cap := []) rfl (.on rfl rfl) rfl rfl en58 (by repeat (first | exact TakeL.nil | (apply TakeL.cons; · repeat (first | exact Take1.head | apply Take1.tail)))) (fun w hw => hqr w hw.left.here) rfl (fun _ => ⟨_, (by repeat (first | exact TakeL.nil | (apply TakeL.cons; · repeat (first | exact Take1.head | apply Take1.tail))))⟩) ?_
      rintro ⟨a49, c49⟩ -
      dsimp only
      refine WD.one 13 (by kernel_rfl) ?_
      refine WO.y rfl rfl (.on rfl rfl) (Yl.toStr un55 un5 un9 rfl (Reads.of (RdOf.own (v := .slice a49 (polB p).length c49) (e := 5) (cs := ints .u8 (polB p))) (by repeat (first | exact Take1.head | apply Take1.tail)))) rfl ?_
      refine WD.takeOn 14 rfl (by kernel_rfl) (by kernel_rfl) (by kernel_rfl) rfl rfl rfl rfl (Yl.sEq rfl rfl) rfl ?_
      refine WD.know (t := 51) (b' := true) rfl (by first | rfl | (simp; done) | (simp; omega)) ?_
      refine WD.take 15 rfl (by kernel_rfl) (by kernel_rfl) (by kernel_rfl) rfl rfl (Yl.pickT rfl rfl) rfl ?_
      refine WD.one 16 (by kernel_rfl) ?_
      refine WO.sto rfl rfl .no (Sto.one sz4 rfl rfl (by repeat (first | exact Take1.head | apply Take1.tail)) rfl (by rfl) (by rfl)) ⟨_, (by repeat (first | exact TakeL.nil | (apply TakeL.cons; · repeat (first | exact Take1.head | apply Take1.tail))))⟩ ?_
      refine WD.done (by kernel_rfl) ?_
      refine WC.ret ?_
      repeat (first | (with_reducible refine peelT ?_) | (with_reducible refine peelB ?_) | (with_reducible refine peelTX ?_) | (with_reducible refine peelBX ?_) | (with_reducible refine peelBN ?_) | (with_reducible refine peelBO rfl ?_))
      refine retM.of (.cons (by repeat (first | exact Take1.head | apply Take1.tail)) .nil) ?_
      exact retV1 (.inr rfl) Try.results27 on4 rfl (by repeat (first | exact Take1.head | apply Take1.tail)) fun w' h => ⟨(), trivial, rfl, h.sub (by repeat (first | exact TakeL.nil | (apply TakeL.cons; · repeat (first | exact Take1.head | apply Take1.tail))))⟩
    · refine WO.callC (xs := [.tmp 48]) (cap := []) rfl (.on rfl rfl) rfl rfl en58 (by repeat (first | exact TakeL.nil | (apply TakeL.cons; · repeat (first | exact Take1.head | apply Take1.tail)))) (fun w hw => hqr w hw.left.here) rfl (fun _ => ⟨_, (by repeat (first | exact TakeL.nil | (apply TakeL.cons; · repeat (first | exact Take1.head | apply Take1.tail))))⟩) ?_
      rintro ⟨a49, c49⟩ -
      dsimp only
      refine WD.two 10 13 (by kernel_rfl) ?_ ?_
      · refine WO.y rfl rfl (.on rfl rfl) (Yl.toStr un55 un5 un9 rfl (Reads.of (RdOf.own (v := .slice a46 (polB p).length c46) (e := 5) (cs := ints .u8 (polB p))) (by repeat (first | exact Take1.head | apply Take1.tail)))) rfl ?_
        refine WD.one 13 (by kernel_rfl) ?_
        refine WO.y rfl rfl (.on rfl rfl) (Yl.toStr un55 un5 un9 rfl (Reads.of (RdOf.own (v := .slice a49 (polB p).length c49) (e := 5) (cs := ints .u8 (polB p))) (by repeat (first | exact Take1.head | apply Take1.tail)))) rfl ?_
        refine WD.takeOn 14 rfl (by kernel_rfl) (by kernel_rfl) (by kernel_rfl) rfl rfl rfl rfl (Yl.sEq rfl rfl) rfl ?_
        refine WD.know (t := 51) (b' := true) rfl (by first | rfl | (simp; done) | (simp; omega)) ?_
        refine WD.take 15 rfl (by kernel_rfl) (by kernel_rfl) (by kernel_rfl) rfl rfl (Yl.pickT rfl rfl) rfl ?_
        refine WD.one 16 (by kernel_rfl) ?_
        refine WO.sto rfl rfl .no (Sto.one sz4 rfl rfl (by repeat (first | exact Take1.head | apply Take1.tail)) rfl (by rfl) (by rfl)) ⟨_, (by repeat (first | exact TakeL.nil | (apply TakeL.cons; · repeat (first | exact Take1.head | apply Take1.tail))))⟩ ?_
        refine WD.done (by kernel_rfl) ?_
        refine WC.ret ?_
        repeat (first | (with_reducible refine peelT ?_) | (with_reducible refine peelB ?_) | (with_reducible refine peelTX ?_) | (with_reducible refine peelBX ?_) | (with_reducible refine peelBN ?_) | (with_reducible refine peelBO rfl ?_))
        refine retM.of (.cons (by repeat (first | exact Take1.head | apply Take1.tail)) .nil) ?_
        exact retV1 (.inr rfl) Try.results27 on4 rfl (by repeat (first | exact Take1.head | apply Take1.tail)) fun w' h => ⟨(), trivial, rfl, h.sub (by repeat (first | exact TakeL.nil | (apply TakeL.cons; · repeat (first | exact Take1.head | apply Take1.tail))))⟩
      · refine WO.y rfl rfl (.on rfl rfl) (Yl.toStr un55 un5 un9 rfl (Reads.of (RdOf.own (v := .slice a49 (polB p).length c49) (e := 5) (cs := ints .u8 (polB p))) (by repeat (first | exact Take1.head | apply Take1.tail)))) rfl ?_
        refine WD.one 10 (by kernel_rfl) ?_
        refine WO.y rfl rfl (.on rfl rfl) (Yl.toStr un55 un5 un9 rfl (Reads.of (RdOf.own (v := .slice a46 (polB p).length c46) (e := 5) (cs := ints .u8 (polB p))) (by repeat (first | exact Take1.head | apply Take1.tail)))) rfl ?_
        refine WD.takeOn 14 rfl (by kernel_rfl) (by kernel_rfl) (by kernel_rfl) rfl rfl rfl rfl (Yl.sEq rfl rfl) rfl ?_
        refine WD.know (t := 51) (b' := true) rfl (by first | rfl | (simp; done) | (simp; omega)) ?_
        refine WD.take 15 rfl (by kernel_rfl) (by kernel_rfl) (by kernel_rfl) rfl rfl (Yl.pickT rfl rfl) rfl ?_
        refine WD.one 16 (by kernel_rfl) ?_
        refine WO.sto rfl rfl .no (Sto.one sz4 rfl rfl (by repeat (first | exact Take1.head | apply Take1.tail)) rfl (by rfl) (by rfl)) ⟨_, (by repeat (first | exact TakeL.nil | (apply TakeL.cons; · repeat (first | exact Take1.head | apply Take1.tail))))⟩ ?_
        refine WD.done (by kernel_rfl) ?_
        refine WC.ret ?_
        repeat (first | (with_reducible refine peelT ?_) | (with_reducible refine peelB ?_) | (with_reducible refine peelTX ?_) | (with_reducible refine peelBX ?_) | (with_reducible refine peelBN ?_) | (with_reducible refine peelBO rfl ?_))
        refine retM.of (.cons (by repeat (first | exact Take1.head | apply Take1.tail)) .nil) ?_
        exact retV1 (.inr rfl) Try.results27 on4 rfl (by repeat (first | exact Take1.head | apply Take1.tail)) fun w' h => ⟨(), trivial, rfl, h.sub (by repeat (first | exact TakeL.nil | (apply TakeL.cons; · repeat (first | exact Take1.head | apply Take1.tail))))⟩
end Go.Proofs.Ytnlibngncicobaa
