/- JitterOnce: the walk. -/
import Derived.Test.YtklbmgfpnafdlaaJitV
import Derived.Test.YtklbmgfpnafdlaaLibMk
namespace Go.Proofs.Ytklbmgfpnafdlaa
open Go Go.RowKit

theorem newU_bad (d s : Int) (hm : mayJ d s = false) (hd : U6 d) (hs : U6 s) (w : World) (hw : OK w (fpL []) [] w) : Fn Try.prog 8 [.int .u64 d, .int .u64 s] [] w (fun _ : Unit => True) (fun _ => .tuple #[.pointer none, .int .i64 2]) (fun _ => []) := by
  have hd0 := hd.1
  have hs0 := hs.1
  refine enterF Try.func8 rfl Try.ntmps8 rfl hw ?_
  refine WC.seq ?_
  refine WC.region ?_
  refine WL.y (Yl.assign rfl) rfl ?_ -- t4
  refine WL.y (Yl.assign rfl) rfl ?_ -- t5
  refine WL.nil ?_
  refine WC.seq ?_
  refine WC.midE (α := Unit) (fun _ => [(15, .bool (!mayJ d s))]) (fun _ => []) (fun _ => True) ?_ ?_
  · refine WC.region ?_
    refine WL.y (Yl.move rfl) rfl ?_ -- t6
    refine WL.y (Yl.gtr rfl rfl) rfl ?_ -- t7
    refine WL.y (Yl.move rfl) rfl ?_ -- t8
    refine WL.both (t := 8) rfl (fun g8 => ?_) (fun g8 => ?_)
    · refine WL.off rfl rfl rfl rfl ?_ -- t9
      refine WL.off rfl rfl rfl rfl ?_ -- t10
      refine WL.y (Yl.pickT rfl rfl) rfl ?_ -- t11
      refine WL.y (Yl.move rfl) rfl ?_ -- t12
      refine WL.off rfl rfl rfl rfl ?_ -- t13
      refine WL.off rfl rfl rfl rfl ?_ -- t14
      refine WL.y (Yl.pickT rfl rfl) rfl ?_ -- t15
      refine WL.say (t := 15) (v' := .bool (!mayJ d s)) rfl (by (refine congrArg Value.bool ?_; clear hm hw; unfold mayJ; by_cases a : d ≤ 4294967296 <;> by_cases b : 0 < s <;> by_cases c : s ≤ 4294967296 <;> simp_all <;> omega)) ?_
      refine WL.nil ?_
      exact ⟨rfl, (), trivial, (by repeat (first | exact Sub.nil | refine Sub.cons rfl ?_)), (by repeat (first | exact Sub.nil | refine Sub.cons rfl ?_)), _, (by repeat (first | exact TakeL.nil | (apply TakeL.cons; · repeat (first | exact Take1.head | apply Take1.tail))))⟩
    · refine WL.on rfl rfl ?_
      refine WL.y (Yl.move rfl) rfl ?_ -- t9
      refine WL.on rfl rfl ?_
      refine WL.y (Yl.eql rfl rfl) rfl ?_ -- t10
      refine WL.y (Yl.pickF rfl rfl) rfl ?_ -- t11
      refine WL.y (Yl.move rfl) rfl ?_ -- t12
      refine WL.both (t := 12) rfl (fun g12 => ?_) (fun g12 => ?_)
      · refine WL.off rfl rfl rfl rfl ?_ -- t13
        refine WL.off rfl rfl rfl rfl ?_ -- t14
        refine WL.y (Yl.pickT rfl rfl) rfl ?_ -- t15
        refine WL.say (t := 15) (v' := .bool (!mayJ d s)) rfl (by (refine congrArg Value.bool ?_; clear hm hw; unfold mayJ; by_cases a : d ≤ 4294967296 <;> by_cases b : 0 < s <;> by_cases c : s ≤ 4294967296 <;> simp_all <;> omega)) ?_
        refine WL.nil ?_
        exact ⟨rfl, (), trivial, (by repeat (first | exact Sub.nil | refine Sub.cons rfl ?_)), (by repeat (first | exact Sub.nil | refine Sub.cons rfl ?_)), _, (by repeat (first | exact TakeL.nil | (apply TakeL.cons; · repeat (first | exact Take1.head | apply Take1.tail))))⟩
      · refine WL.on rfl rfl ?_
        refine WL.y (Yl.move rfl) rfl ?_ -- t13
        refine WL.on rfl rfl ?_
        refine WL.y (Yl.gtr rfl rfl) rfl ?_ -- t14
        refine WL.y (Yl.pickF rfl rfl) rfl ?_ -- t15
        refine WL.say (t := 15) (v' := .bool (!mayJ d s)) rfl (by (refine congrArg Value.bool ?_; clear hm hw; unfold mayJ; by_cases a : d ≤ 4294967296 <;> by_cases b : 0 < s <;> by_cases c : s ≤ 4294967296 <;> simp_all <;> omega)) ?_
        refine WL.nil ?_
        exact ⟨rfl, (), trivial, (by repeat (first | exact Sub.nil | refine Sub.cons rfl ?_)), (by repeat (first | exact Sub.nil | refine Sub.cons rfl ?_)), _, (by repeat (first | exact TakeL.nil | (apply TakeL.cons; · repeat (first | exact Take1.head | apply Take1.tail))))⟩
  · rintro ⟨⟩ -
    rw [hm]
    dsimp only [List.nil_append, List.cons_append, Bool.not_false]
    refine WC.condT rfl (by first | rfl | (simp; done) | (simp; omega)) ?_
    refine WC.seq ?_
    refine WC.region ?_
    refine WL.y (Yl.assign rfl) rfl ?_ -- t4
    refine WL.y (Yl.assign rfl) rfl ?_ -- t5
    refine WL.nil ?_
    refine WC.ret ?_
    repeat (first | (with_reducible refine peelT ?_) | (with_reducible refine peelB ?_) | (with_reducible refine peelTX ?_) | (with_reducible refine peelBX ?_) | (with_reducible refine peelBN ?_) | (with_reducible refine peelBO rfl ?_))
    exact ret2 (.inr rfl) Try.results8 rfl rfl fun w' h => ⟨(), trivial, rfl, h.sub (by repeat (first | exact TakeL.nil | (apply TakeL.cons; · repeat (first | exact Take1.head | apply Take1.tail))))⟩
theorem alO_any (b : Nat) (w : World) (hw : OK w (fpL []) [] w) :
    Fn Try.prog 15 [.pointer (some ⟨b, 0, none⟩)] [] w (fun _ : Nat => True) (fun y => .func (.func 42) #[] #[.pointer (some ⟨y, 0, none⟩)]) (fun y => [blkR y 25 [.pointer (some ⟨b, 0, none⟩)]]) := by
  refine enterF Try.func15 rfl Try.ntmps15 rfl hw ?_
  refine WC.seq ?_
  refine WC.region ?_
  refine WL.to (To.box (cs := [.pointer (some ⟨b, 0, none⟩)]) rfl rfl) rfl ?_ -- t1
  intro b1
  refine WL.y (Yl.assign rfl) rfl ?_ -- t2
  refine WL.nil ?_
  refine WC.seq ?_
  refine WC.region ?_
  refine WL.y (Yl.makeFunc (xs := []) (ys := [.tmp 1]) rfl rfl) rfl ?_ -- t3
  refine WL.y (Yl.assign rfl) rfl ?_ -- t2
  refine WL.nil ?_
  refine WC.ret ?_
  repeat (first | (with_reducible refine peelT ?_) | (with_reducible refine peelB ?_) | (with_reducible refine peelTX ?_) | (with_reducible refine peelBX ?_) | (with_reducible refine peelBN ?_) | (with_reducible refine peelBO rfl ?_))
  exact ret1 (.inr rfl) Try.results15 rfl fun w' h => ⟨b1, trivial, rfl, h.sub (by repeat (first | exact TakeL.nil | (apply TakeL.cons; · repeat (first | exact Take1.head | apply Take1.tail))))⟩
theorem al_iterW (b1 b bm : Nat) (B : Jb) (hB : B.ok) (hm : B.m.length ≤ 1000000) :
    IterW Try.prog 42 ([.pointer (some ⟨b1, 0, none⟩)] : List Value).toArray (alR 25 97 b1 b bm B) (ysAU B.m) (alR 25 97 b1 b bm B) (fun _ => alR 25 97 b1 b bm B) :=
  iterW_of_iter fun W hW => all1U_iter b1 b bm B hB hm W hW

theorem once_bad (d s : Int) (l : List Dj) (v : Value) (hd : U6 d) (hs : U6 s) (hmj : mayJ d s = false) (w : World) (hw : OK w (fpL [rdR v 5 l.length (vcs Dj.val l)]) [rdR v 5 l.length (vcs Dj.val l)] w) :
    Fn Try.prog 5 [.int .u64 d, .int .u64 s, v] [rdR v 5 l.length (vcs Dj.val l)] w (fun _ : Unit => True) (fun _ => .bool true) (fun _ => []) := by
  obtain ⟨al, cl, rfl, hcl, hml⟩ := (hw.get .head : Rd _ _ _ _ _).form
  refine enterM Try.func5 rfl Try.ntmps5 rfl hw ?_
  refine WC.seq ?_
  refine WC.region ?_
  refine WL.to (To.alloc (cs := [.bool false]) zr4 rfl) rfl ?_ -- t6
  intro b6
  refine WL.nil ?_
  refine WC.seq ?_
  refine WC.seq ?_
  refine WC.region ?_
  refine WL.callC (xs := []) (cap := []) rfl rfl en7 (by repeat (first | exact TakeL.nil | (apply TakeL.cons; · repeat (first | exact Take1.head | apply Take1.tail)))) (fun w hw => known_any w hw.left.here) rfl ?_ -- t34 hailer/hailerlaw39.known
  rintro ⟨⟩ -
  refine WL.y (Yl.not rfl) rfl ?_ -- t35
  refine WL.know (t := 35) (b' := false) rfl (by first | rfl | (simp; done) | (simp; omega)) ?_
  refine WL.nil ?_
  refine WC.condF rfl (by first | rfl | (simp; done) | (simp; omega)) ?_
  refine WC.skip ?_
  refine WC.seq ?_
  refine WC.region ?_
  refine WL.y (Yl.move rfl) rfl ?_ -- t37
  refine WL.y (Yl.move rfl) rfl ?_ -- t38
  refine WL.callC (xs := [.tmp 37, .tmp 38]) (cap := []) rfl rfl en8 (by repeat (first | exact TakeL.nil | (apply TakeL.cons; · repeat (first | exact Take1.head | apply Take1.tail)))) (fun w hw => newU_bad d s hmj hd hs w hw.left.here) rfl ?_ -- t39 hailer/jitter.New[uint32]
  rintro ⟨⟩ -
  refine WL.y (Yl.move rfl) rfl ?_ -- t36
  refine WL.y (Yl.extract rfl rfl) rfl ?_ -- t40
  refine WL.y (Yl.extract rfl rfl) rfl ?_ -- t41
  refine WL.y (Yl.assign rfl) rfl ?_ -- t7
  refine WL.y (Yl.assign rfl) rfl ?_ -- t8
  refine WL.nil ?_
  refine WC.seq ?_
  refine WC.seq ?_
  refine WC.region ?_
  refine WL.y (Yl.move rfl) rfl ?_ -- t42
  refine WL.y (Yl.neq rfl rfl) rfl ?_ -- t43
  refine WL.know (t := 43) (b' := true) rfl (by first | rfl | (simp; done) | (simp; omega)) ?_
  refine WL.y (Yl.move rfl) rfl ?_ -- t44
  refine WL.off rfl rfl rfl rfl ?_ -- t45
  refine WL.off rfl rfl rfl rfl ?_ -- t46
  refine WL.off rfl rfl rfl rfl ?_ -- t47
  refine WL.y (Yl.pickT rfl rfl) rfl ?_ -- t48
  refine WL.know (t := 48) (b' := true) rfl (by first | rfl | (simp; done) | (simp; omega)) ?_
  refine WL.nil ?_
  refine WC.condT rfl (by first | rfl | (simp; done) | (simp; omega)) ?_
  refine WC.seq ?_
  refine WC.region ?_
  refine WL.sto (Sto.one sz4 rfl rfl (by repeat (first | exact Take1.head | apply Take1.tail)) rfl (by rfl) (by rfl)) (fun _ h => nomatch h) ?_ -- st 2
  refine WL.nil ?_
  refine WC.ret ?_
  repeat (first | (with_reducible refine peelT ?_) | (with_reducible refine peelB ?_) | (with_reducible refine peelTX ?_) | (with_reducible refine peelBX ?_) | (with_reducible refine peelBN ?_) | (with_reducible refine peelBO rfl ?_))
  refine retM.of .nil ?_
  exact retV1 (.inr rfl) Try.results5 on4 rfl (by repeat (first | exact Take1.head | apply Take1.tail)) fun w' h => ⟨(), trivial, rfl, h.sub (by repeat (first | exact TakeL.nil | (apply TakeL.cons; · repeat (first | exact Take1.head | apply Take1.tail))))⟩

set_option maxHeartbeats 1600000 in
set_option maxRecDepth 100000 in
theorem once_good (d s : Int) (l : List Dj) (v : Value) (hG : ∀ x ∈ l, x.ok) (hd : 0 ≤ d ∧ d ≤ 4294967296) (hs : 0 < s ∧ s ≤ 4294967296) (w : World) (hw : OK w (fpL [rdR v 5 l.length (vcs Dj.val l)]) [rdR v 5 l.length (vcs Dj.val l)] w) :
    Fn Try.prog 5 [.int .u64 d, .int .u64 s, v] [rdR v 5 l.length (vcs Dj.val l)] w (fun _ : Unit => True) (fun _ => .bool true) (fun _ => []) := by
  obtain ⟨al, cl, rfl, hcl, hml⟩ := (hw.get .head : Rd _ _ _ _ _).form
  have hs0 : s ≠ 0 := by omega
  refine enterM Try.func5 rfl Try.ntmps5 rfl hw ?_
  refine WC.seq ?_
  refine WC.region ?_
  refine WL.to (To.alloc (cs := [.bool false]) zr4 rfl) rfl ?_ -- t6
  intro b6
  refine WL.nil ?_
  refine WC.seq ?_
  refine WC.seq ?_
  refine WC.region ?_
  refine WL.callC (xs := []) (cap := []) rfl rfl en7 (by repeat (first | exact TakeL.nil | (apply TakeL.cons; · repeat (first | exact Take1.head | apply Take1.tail)))) (fun w hw => known_any w hw.left.here) rfl ?_ -- t34 hailer/hailerlaw39.known
  rintro ⟨⟩ -
  refine WL.y (Yl.not rfl) rfl ?_ -- t35
  refine WL.know (t := 35) (b' := false) rfl (by first | rfl | (simp; done) | (simp; omega)) ?_
  refine WL.nil ?_
  refine WC.condF rfl (by first | rfl | (simp; done) | (simp; omega)) ?_
  refine WC.skip ?_
  refine WC.seq ?_
  refine WC.region ?_
  refine WL.y (Yl.move rfl) rfl ?_ -- t37
  refine WL.y (Yl.move rfl) rfl ?_ -- t38
  refine WL.callC (xs := [.tmp 37, .tmp 38]) (cap := []) rfl rfl en8 (by repeat (first | exact TakeL.nil | (apply TakeL.cons; · repeat (first | exact Take1.head | apply Take1.tail)))) (fun w hw => newU_any d s hd hs w hw.left.here) rfl ?_ -- t39 hailer/jitter.New[uint32]
  rintro ⟨b, m⟩ -
  dsimp only [jb, List.cons_append, List.nil_append]
  refine WL.y (Yl.move rfl) rfl ?_ -- t36
  refine WL.y (Yl.extract rfl rfl) rfl ?_ -- t40
  refine WL.y (Yl.extract rfl rfl) rfl ?_ -- t41
  refine WL.y (Yl.assign rfl) rfl ?_ -- t7
  refine WL.y (Yl.assign rfl) rfl ?_ -- t8
  refine WL.nil ?_
  refine WC.seq ?_
  refine WC.seq ?_
  refine WC.region ?_
  refine WL.y (Yl.move rfl) rfl ?_ -- t42
  refine WL.y (Yl.neq rfl rfl) rfl ?_ -- t43
  refine WL.know (t := 43) (b' := false) rfl (by first | rfl | (simp; done) | (simp; omega)) ?_
  refine WL.y (Yl.move rfl) rfl ?_ -- t44
  refine WL.on rfl rfl ?_
  refine WL.y (Yl.move rfl) rfl ?_ -- t45
  refine WL.on rfl rfl ?_
  refine WL.y (Yl.len un23 rfl) rfl ?_ -- t46
  refine WL.on rfl rfl ?_
  refine WL.y (Yl.gtr rfl rfl) rfl ?_ -- t47
  refine WL.y (Yl.pickF rfl rfl) rfl ?_ -- t48
  refine WL.nil ?_
  refine WC.cond rfl (fun g48 => ?_) (fun g48 => ?_)
  · refine WC.seq ?_
    refine WC.region ?_
    refine WL.sto (Sto.one sz4 rfl rfl (by repeat (first | exact Take1.head | apply Take1.tail)) rfl (by rfl) (by rfl)) (fun _ h => nomatch h) ?_ -- st 2
    refine WL.nil ?_
    refine WC.ret ?_
    repeat (first | (with_reducible refine peelT ?_) | (with_reducible refine peelB ?_) | (with_reducible refine peelTX ?_) | (with_reducible refine peelBX ?_) | (with_reducible refine peelBN ?_) | (with_reducible refine peelBO rfl ?_))
    refine retM.of .nil ?_
    exact retV1 (.inr rfl) Try.results5 on4 rfl (by repeat (first | exact Take1.head | apply Take1.tail)) fun w' h => ⟨(), trivial, rfl, h.sub (by repeat (first | exact TakeL.nil | (apply TakeL.cons; · repeat (first | exact Take1.head | apply Take1.tail))))⟩
  · refine WC.skip ?_
    refine WC.seq ?_
    have hl200 : l.length ≤ 200 := by
      have : ¬ 200 < (l.length : Int) := by simpa using g48
      omega
    refine WC.region ?_
    refine WL.y (Yl.assign rfl) rfl ?_ -- t9
    refine WL.y (Yl.assign rfl) rfl ?_ -- t10
    refine WL.y (Yl.assign rfl) rfl ?_ -- t11
    refine WL.nil ?_
    refine WC.seq ?_
    refine WC.region ?_
    refine WL.y (Yl.assign rfl) rfl ?_ -- t12
    refine WL.y (Yl.assign rfl) rfl ?_ -- t13
    refine WL.nil ?_
    refine WC.seq ?_
    refine WC.region ?_
    refine WL.to (To.makeMap (Value.int .u64) vW) rfl ?_ -- t49
    intro b49
    refine WL.to (To.alloc (cs := [.map none]) zr63 rfl) rfl ?_ -- t14
    intro b14
    refine WL.sto (Sto.one sz63 rfl rfl (by repeat (first | exact Take1.head | apply Take1.tail)) rfl (by rfl) (by rfl)) (fun _ h => nomatch h) ?_ -- st 3
    refine WL.nil ?_
    refine WC.seq ?_
    refine WC.region ?_
    refine WL.y (Yl.assign rfl) rfl ?_ -- t15
    refine WL.y (Yl.assign rfl) rfl ?_ -- t16
    refine WL.nil ?_
    refine WC.seq ?_
    refine WC.seq ?_
    refine WC.region ?_
    refine WL.y (Yl.move rfl) rfl ?_ -- t50
    refine WL.y (Yl.len un23 rfl) rfl ?_ -- t51
    refine WL.y (Yl.move rfl) rfl ?_ -- t52
    refine WL.nil ?_
    refine WC.block ?_
    refine WC.view (fun w h => h.mark0) ?_
    refine WC.loopM (α := Nat × On × List Nat) (fun p => [(0, .int .u64 d), (1, .int .u64 s), (6, .pointer (some ⟨b6, 0, none⟩)), (7, .pointer (some ⟨b, 0, none⟩)), (9, .int .u64 p.2.1.now), (10, .bool p.2.1.so), (11, .int .u64 p.2.1.la), (12, .int .u64 p.2.1.fi), (13, .int .u64 p.2.1.tm), (14, .pointer (some ⟨b14, 0, none⟩)), (15, .int .u64 p.2.1.pu), (16, .int .u64 p.2.1.pl), (50, .slice al l.length cl), (51, .int .i64 (l.length : Int)), (52, .int .i64 (p.1 : Int))]) (fun p => [markR p.2.2, blkR b6 4 [.bool false], blkR b 97 (p.2.1.B.cells m), mapR (Value.int .u64) vI m p.2.1.B.m, blkR b14 63 [.map (some b49)], mapR (Value.int .u64) vW b49 p.2.1.m, rdR (.slice al l.length cl) 5 l.length (vcs Dj.val l)]) (fun p => p.2.2.map dM) (fun p => p.1 ≤ l.length ∧ OnI d s p.1 p.2.1) (fun p => l.length - p.1) (0, On.init d s, []) ⟨Nat.zero_le _, on_init hd hs⟩ rfl ⟨(by repeat (first | exact Sub.nil | refine Sub.cons rfl ?_)), _, (by repeat (first | exact TakeL.nil | (apply TakeL.cons; · repeat (first | exact Take1.head | apply Take1.tail))))⟩ ?_
    rintro ⟨j, o0, Dl⟩ ⟨hj, hI0⟩
    dsimp only at hj hI0 ⊢
    refine WC.seq ?_
    refine WC.region ?_
    refine WL.y (Yl.lss rfl rfl) rfl ?_ -- t53
    refine WL.nil ?_
    refine WC.seq ?_
    refine WC.condD rfl (fun g53 => ?_) (fun g53 => ?_)
    · refine WC.skip ?_
      refine WC.seq ?_
      refine WC.block ?_
      refine WC.seq ?_
      refine WC.region ?_
      refine WL.y (Yl.move rfl) rfl ?_ -- t54
      have hjl : j < l.length := by omega
      obtain ⟨x, hx0⟩ : ∃ x, l[j]? = some x := ⟨_, List.getElem?_eq_getElem hjl⟩
      have hxo : x.ok := hG x (List.mem_of_getElem? hx0)
      have hxn := hxo.n
      have htm : x.n.tmod 1048576 = x.n % 1048576 := i64_rem hxn.1
      have hI := on_tick hI0 (x := x.n % 1048576) (by omega)
      have hI0n := hI0.now
      obtain ⟨o, ho⟩ : ∃ o, o0.tick (x.n % 1048576) = o := ⟨_, rfl⟩
      have e1 : o0.B = o.B := by rw [← ho]; rfl
      have e2 : o0.so = o.so := by rw [← ho]; rfl
      have e3 : o0.la = o.la := by rw [← ho]; rfl
      have e4 : o0.fi = o.fi := by rw [← ho]; rfl
      have e5 : o0.tm = o.tm := by rw [← ho]; rfl
      have e6 : o0.m = o.m := by rw [← ho]; rfl
      have e7 : o0.pu = o.pu := by rw [← ho]; rfl
      have e8 : o0.pl = o.pl := by rw [← ho]; rfl
      have e9 : o0.now + x.n % 1048576 = o.now := by rw [← ho]; rfl
      have hpu0 : o.pu < ((j + 1 : Nat) : Int) := by
        have := hI0.pu.2
        omega
      have hml0 : o.m.length < j + 1 := by
        have := hI0.ml
        rw [← e6]
        omega
      have hll0 : o.B.l < ((j + 1 : Nat) : Int) := by
        have := hI0.l.2
        rw [← e1]
        omega
      rw [ho] at hI
      rw [e1, e2, e3, e4, e5, e6, e7, e8]
      refine WL.y (Yl.index un23 sz37 rfl rfl (Reads.of (r := rdR (.slice al l.length cl) 5 l.length (vcs Dj.val l)) RdOf.rd' (by repeat (first | exact Take1.head | apply Take1.tail))) rfl (by omega)) rfl ?_ -- t55
      refine WL.y (Yl.loadV (j := j) (u := x) vtD hG rfl (Reads.of (r := rdR (.slice al l.length cl) 5 l.length (vcs Dj.val l)) RdOf.rd' (by repeat (first | exact Take1.head | apply Take1.tail))) rfl hx0) rfl ?_
      refine WL.to (To.alloc (cs := Dj.zero.cells) zr37 rfl) rfl ?_ -- t18
      intro b18
      refine WL.y (Yl.assign rfl) rfl ?_ -- t17
      refine WL.sto (Sto.agg sz37 rfl rfl (by repeat (first | exact Take1.head | apply Take1.tail)) (Dj.ones _) rfl (by rfl) (show _ = x.cells from rfl)) (fun _ h => nomatch h) ?_ -- st 4
      refine WL.nil ?_
      refine WC.seq ?_
      refine WC.region ?_
      refine WL.y (Yl.move rfl) rfl ?_ -- t57
      refine WL.y (Yl.field fo37_2 rfl) rfl ?_ -- t58
      refine WL.y (Yl.load on22 rfl (by repeat (first | exact Take1.head | apply Take1.tail)) (by rfl)) rfl ?_ -- t59
      refine WL.y (Yl.rem rfl rfl (by omega) htm) rfl ?_
      refine WL.y (Yl.add rfl rfl rfl) rfl ?_ -- t61
      refine WL.say (t := 61) (v' := .int .u64 o.now) rfl (by (refine congrArg _ ?_; rw [← e9]; exact wr_in ⟨by omega, by omega⟩)) ?_
      refine WL.y (Yl.assign rfl) rfl ?_ -- t9
      refine WL.nil ?_
      refine WC.midX (α := On) (fun o => [(0, .int .u64 d), (1, .int .u64 s), (6, .pointer (some ⟨b6, 0, none⟩)), (7, .pointer (some ⟨b, 0, none⟩)), (9, .int .u64 o.now), (10, .bool o.so), (11, .int .u64 o.la), (12, .int .u64 o.fi), (13, .int .u64 o.tm), (14, .pointer (some ⟨b14, 0, none⟩)), (15, .int .u64 o.pu), (16, .int .u64 o.pl), (17, .int .i64 (j : Int)), (50, .slice al l.length cl), (51, .int .i64 (l.length : Int)), (52, .int .i64 (j : Int))]) (fun o => [markR Dl, blkR b6 4 [.bool false], blkR b 97 (o.B.cells m), mapR (Value.int .u64) vI m o.B.m, blkR b14 63 [.map (some b49)], mapR (Value.int .u64) vW b49 o.m, rdR (.slice al l.length cl) 5 l.length (vcs Dj.val l)]) (fun o => OnI d s (j + 1) o) ?_ ?_
      · refine WC.seq ?_
        refine WC.region ?_
        refine WL.y (Yl.field fo37_0 rfl) rfl ?_ -- t62
        refine WL.y (Yl.load on5 rfl (by repeat (first | exact Take1.head | apply Take1.tail)) (by rfl)) rfl ?_ -- t63
        refine WL.nil ?_
        refine WC.block ?_
        refine WC.seq ?_
        refine WC.region ?_
        refine WL.y (Yl.eql rfl rfl) rfl ?_ -- t65
        refine WL.y (Yl.assign rfl) rfl ?_ -- t64
        refine WL.nil ?_
        refine WC.condD rfl (fun g64 => ?_) (fun g64 => ?_)
        · refine WC.seq ?_
          refine WC.region ?_
          refine WL.y (Yl.move rfl) rfl ?_ -- t66
          refine WL.y (Yl.field fo37_1 rfl) rfl ?_ -- t67
          refine WL.y (Yl.load on22 rfl (by repeat (first | exact Take1.head | apply Take1.tail)) (by rfl)) rfl ?_ -- t68
          refine WL.y (Yl.move rfl) rfl ?_ -- t69
          refine WL.y (Yl.field fo37_3 rfl) rfl ?_ -- t70
          refine WL.y (Yl.load on29 rfl (by repeat (first | exact Take1.head | apply Take1.tail)) (by rfl)) rfl ?_ -- t71
          obtain ⟨hIp, hno⟩ := on_put hI hpu0 hml0 (by omega) (ctr := x.c) (x := x.x) hxo.c
          have hnU : U6 o.now := ⟨by rw [← e9]; omega, by rw [← e9]; omega⟩
          refine WL.callC (xs := [.tmp 66, .tmp 68, .tmp 69, .tmp 71]) (cap := []) rfl rfl en10 (by repeat (first | exact TakeL.nil | (apply TakeL.cons; · repeat (first | exact Take1.head | apply Take1.tail)))) (fun w hw => putU_any b m o.B x.c o.now (vW x.x) hI.ok hxo.c hnU w hw.left.here) rfl ?_ -- t72 (*hailer/jitter.Buffer[uint32]).Put
          rintro ⟨⟩ -
          dsimp only [jb, List.cons_append, List.nil_append]
          obtain ⟨q, hq⟩ : ∃ q, (o.B.put x.c o.now (vW x.x)).2 = q := ⟨_, rfl⟩
          obtain ⟨C, hC⟩ : ∃ C, (o.B.put x.c o.now (vW x.x)).1 = C := ⟨_, rfl⟩
          rw [hq] at hno ⊢
          rw [hC]
          refine WL.y (Yl.assign rfl) rfl ?_ -- t19
          refine WL.nil ?_
          refine WC.seq ?_
          refine WC.seq ?_
          refine WC.region ?_
          refine WL.y (Yl.move rfl) rfl ?_ -- t73
          refine WL.y (Yl.eql rfl rfl) rfl ?_ -- t74
          refine WL.nil ?_
          refine WC.condD rfl (fun g74 => ?_) (fun g74 => ?_)
          · refine WC.region ?_
            refine WL.y (Yl.field fo37_1 rfl) rfl ?_ -- t75
            refine WL.y (Yl.load on22 rfl (by repeat (first | exact Take1.head | apply Take1.tail)) (by rfl)) rfl ?_ -- t76
            refine WL.y (Yl.move rfl) rfl ?_ -- t77
            refine WL.y (Yl.assign rfl) rfl ?_ -- t12
            refine WL.y (Yl.assign rfl) rfl ?_ -- t13
            refine WL.nil ?_
            refine WC.seq ?_
            refine WC.region ?_
            refine WL.y (Yl.move rfl) rfl ?_ -- t78
            refine WL.y (Yl.add rfl rfl rfl) rfl ?_ -- t79
            refine WL.say (t := 79) (v' := .int .u64 (o.pu + 1)) rfl (by (refine congrArg _ (wr1 ?_); have := hI.pu; omega)) ?_
            refine WL.y (Yl.assign rfl) rfl ?_ -- t15
            refine WL.nil ?_
            refine WC.seq ?_
            refine WC.region ?_
            refine WL.y (Yl.move rfl) rfl ?_ -- t80
            refine WL.y (Yl.eql rfl rfl) rfl ?_ -- t81
            refine WL.nil ?_
            refine WC.condD rfl (fun g81 => ?_) (fun g81 => ?_)
            · refine WC.seq ?_
              refine WC.seq ?_
              refine WC.region ?_
              refine WL.y (Yl.load on63 rfl (by repeat (first | exact Take1.head | apply Take1.tail)) (by rfl)) rfl ?_ -- t83
              refine WL.y (Yl.field fo37_1 rfl) rfl ?_ -- t84
              refine WL.y (Yl.load on22 rfl (by repeat (first | exact Take1.head | apply Take1.tail)) (by rfl)) rfl ?_ -- t85
              have hq0 : q = 0 := by simpa using g81
              have hnn := hno hq0
              refine WL.y (Yl.lookupOk (kv := Value.int .u64) keyU un63 (fun _ => by kernel_rfl) (z := .int .u32 0) hI.kU rfl rfl hxo.c (MReads.of (m := o.m) MapOf.own (by repeat (first | exact Take1.head | apply Take1.tail)))) rfl ?_ -- t86
              rw [hnn]
              refine WL.y (Yl.move rfl) rfl ?_ -- t82
              refine WL.y (Yl.extract rfl rfl) rfl ?_ -- t87
              refine WL.y (Yl.extract rfl rfl) rfl ?_ -- t88
              refine WL.y (Yl.assign rfl) rfl ?_ -- t20
              refine WL.y (Yl.assign rfl) rfl ?_ -- t21
              refine WL.nil ?_
              refine WC.seq ?_
              refine WC.region ?_
              refine WL.y (Yl.move rfl) rfl ?_ -- t89
              refine WL.know (t := 89) (b' := false) rfl (by first | rfl | (simp; done) | (simp; omega)) ?_
              refine WL.nil ?_
              refine WC.condF rfl (by first | rfl | (simp; done) | (simp; omega)) ?_
              refine WC.skip ?_
              refine WC.region ?_
              refine WL.y (Yl.load on63 rfl (by repeat (first | exact Take1.head | apply Take1.tail)) (by rfl)) rfl ?_ -- t90
              refine WL.y (Yl.field fo37_1 rfl) rfl ?_ -- t91
              refine WL.y (Yl.load on22 rfl (by repeat (first | exact Take1.head | apply Take1.tail)) (by rfl)) rfl ?_ -- t92
              refine WL.y (Yl.field fo37_3 rfl) rfl ?_ -- t93
              refine WL.y (Yl.load on29 rfl (by repeat (first | exact Take1.head | apply Take1.tail)) (by rfl)) rfl ?_ -- t94
              refine WL.sto (Sto.mapPut (v := x.x) (q := x.c) (m := o.m) (kv := Value.int .u64) keyU un63 hI.kU rfl rfl hxo.c rfl (by repeat (first | exact Take1.head | apply Take1.tail))) (fun _ h => nomatch h) ?_ -- st 6
              refine WL.nil ?_
              have hpu' : o.pu = 0 := by simpa using g74
              have hq0 : q = 0 := by simpa using g81
              have e : o.put x.c x.x = ⟨C, o.now, o.so, o.la, x.c, o.now, mput o.m x.c x.x, o.pu + 1, o.pl⟩ := by unfold On.put; rw [hC, hq, if_pos hpu', if_pos hpu', if_pos hq0]
              rw [e] at hIp
              exact ⟨rfl, _, hIp, (by repeat (first | exact Sub.nil | refine Sub.cons rfl ?_)), _, (by repeat (first | exact TakeL.nil | (apply TakeL.cons; · repeat (first | exact Take1.head | apply Take1.tail))))⟩
            · refine WC.skip ?_
              have hpu' : o.pu = 0 := by simpa using g74
              have hq0 : ¬ q = 0 := by simpa using g81
              have e : o.put x.c x.x = ⟨C, o.now, o.so, o.la, x.c, o.now, o.m, o.pu + 1, o.pl⟩ := by unfold On.put; rw [hC, hq, if_pos hpu', if_pos hpu', if_neg hq0]
              rw [e] at hIp
              exact ⟨rfl, _, hIp, (by repeat (first | exact Sub.nil | refine Sub.cons rfl ?_)), _, (by repeat (first | exact TakeL.nil | (apply TakeL.cons; · repeat (first | exact Take1.head | apply Take1.tail))))⟩
          · refine WC.skip ?_
            refine WC.seq ?_
            refine WC.region ?_
            refine WL.y (Yl.move rfl) rfl ?_ -- t78
            refine WL.y (Yl.add rfl rfl rfl) rfl ?_ -- t79
            refine WL.say (t := 79) (v' := .int .u64 (o.pu + 1)) rfl (by (refine congrArg _ (wr1 ?_); have := hI.pu; omega)) ?_
            refine WL.y (Yl.assign rfl) rfl ?_ -- t15
            refine WL.nil ?_
            refine WC.seq ?_
            refine WC.region ?_
            refine WL.y (Yl.move rfl) rfl ?_ -- t80
            refine WL.y (Yl.eql rfl rfl) rfl ?_ -- t81
            refine WL.nil ?_
            refine WC.condD rfl (fun g81 => ?_) (fun g81 => ?_)
            · refine WC.seq ?_
              refine WC.seq ?_
              refine WC.region ?_
              refine WL.y (Yl.load on63 rfl (by repeat (first | exact Take1.head | apply Take1.tail)) (by rfl)) rfl ?_ -- t83
              refine WL.y (Yl.field fo37_1 rfl) rfl ?_ -- t84
              refine WL.y (Yl.load on22 rfl (by repeat (first | exact Take1.head | apply Take1.tail)) (by rfl)) rfl ?_ -- t85
              have hq0 : q = 0 := by simpa using g81
              have hnn := hno hq0
              refine WL.y (Yl.lookupOk (kv := Value.int .u64) keyU un63 (fun _ => by kernel_rfl) (z := .int .u32 0) hI.kU rfl rfl hxo.c (MReads.of (m := o.m) MapOf.own (by repeat (first | exact Take1.head | apply Take1.tail)))) rfl ?_ -- t86
              rw [hnn]
              refine WL.y (Yl.move rfl) rfl ?_ -- t82
              refine WL.y (Yl.extract rfl rfl) rfl ?_ -- t87
              refine WL.y (Yl.extract rfl rfl) rfl ?_ -- t88
              refine WL.y (Yl.assign rfl) rfl ?_ -- t20
              refine WL.y (Yl.assign rfl) rfl ?_ -- t21
              refine WL.nil ?_
              refine WC.seq ?_
              refine WC.region ?_
              refine WL.y (Yl.move rfl) rfl ?_ -- t89
              refine WL.know (t := 89) (b' := false) rfl (by first | rfl | (simp; done) | (simp; omega)) ?_
              refine WL.nil ?_
              refine WC.condF rfl (by first | rfl | (simp; done) | (simp; omega)) ?_
              refine WC.skip ?_
              refine WC.region ?_
              refine WL.y (Yl.load on63 rfl (by repeat (first | exact Take1.head | apply Take1.tail)) (by rfl)) rfl ?_ -- t90
              refine WL.y (Yl.field fo37_1 rfl) rfl ?_ -- t91
              refine WL.y (Yl.load on22 rfl (by repeat (first | exact Take1.head | apply Take1.tail)) (by rfl)) rfl ?_ -- t92
              refine WL.y (Yl.field fo37_3 rfl) rfl ?_ -- t93
              refine WL.y (Yl.load on29 rfl (by repeat (first | exact Take1.head | apply Take1.tail)) (by rfl)) rfl ?_ -- t94
              refine WL.sto (Sto.mapPut (v := x.x) (q := x.c) (m := o.m) (kv := Value.int .u64) keyU un63 hI.kU rfl rfl hxo.c rfl (by repeat (first | exact Take1.head | apply Take1.tail))) (fun _ h => nomatch h) ?_ -- st 6
              refine WL.nil ?_
              have hpu' : ¬ o.pu = 0 := by simpa using g74
              have hq0 : q = 0 := by simpa using g81
              have e : o.put x.c x.x = ⟨C, o.now, o.so, o.la, o.fi, o.tm, mput o.m x.c x.x, o.pu + 1, o.pl⟩ := by unfold On.put; rw [hC, hq, if_neg hpu', if_neg hpu', if_pos hq0]
              rw [e] at hIp
              exact ⟨rfl, _, hIp, (by repeat (first | exact Sub.nil | refine Sub.cons rfl ?_)), _, (by repeat (first | exact TakeL.nil | (apply TakeL.cons; · repeat (first | exact Take1.head | apply Take1.tail))))⟩
            · refine WC.skip ?_
              have hpu' : ¬ o.pu = 0 := by simpa using g74
              have hq0 : ¬ q = 0 := by simpa using g81
              have e : o.put x.c x.x = ⟨C, o.now, o.so, o.la, o.fi, o.tm, o.m, o.pu + 1, o.pl⟩ := by unfold On.put; rw [hC, hq, if_neg hpu', if_neg hpu', if_neg hq0]
              rw [e] at hIp
              exact ⟨rfl, _, hIp, (by repeat (first | exact Sub.nil | refine Sub.cons rfl ?_)), _, (by repeat (first | exact TakeL.nil | (apply TakeL.cons; · repeat (first | exact Take1.head | apply Take1.tail))))⟩
        · refine WC.seq ?_
          refine WC.region ?_
          refine WL.y (Yl.eql rfl rfl) rfl ?_ -- t96
          refine WL.y (Yl.assign rfl) rfl ?_ -- t95
          refine WL.nil ?_
          refine WC.condD rfl (fun g95 => ?_) (fun g95 => ?_)
          · refine WC.seq ?_
            refine WC.region ?_
            refine WL.y (Yl.move rfl) rfl ?_ -- t98
            refine WL.y (Yl.move rfl) rfl ?_ -- t99
            refine WL.callC (xs := [.tmp 98, .tmp 99]) (cap := []) rfl rfl en12 (by repeat (first | exact TakeL.nil | (apply TakeL.cons; · repeat (first | exact Take1.head | apply Take1.tail)))) (fun w hw => nextU_any b m o.B o.now hI.ok w hw.left.here) rfl ?_ -- t100 (*hailer/jitter.Buffer[uint32]).Next
            rintro ⟨⟩ -
            dsimp only [jb, List.cons_append, List.nil_append]
            refine WL.y (Yl.move rfl) rfl ?_ -- t97
            refine WL.y (Yl.extract rfl rfl) rfl ?_ -- t101
            refine WL.y (Yl.extract rfl rfl) rfl ?_ -- t102
            refine WL.y (Yl.extract rfl rfl) rfl ?_ -- t103
            refine WL.y (Yl.extract rfl rfl) rfl ?_ -- t104
            refine WL.y (Yl.assign rfl) rfl ?_ -- t22
            refine WL.y (Yl.assign rfl) rfl ?_ -- t23
            refine WL.y (Yl.assign rfl) rfl ?_ -- t24
            refine WL.y (Yl.assign rfl) rfl ?_ -- t25
            refine WL.nil ?_
            refine WC.seq ?_
            refine WC.seq ?_
            refine WC.region ?_
            refine WL.y (Yl.move rfl) rfl ?_ -- t105
            refine WL.y (Yl.not rfl) rfl ?_ -- t106
            refine WL.nil ?_
            refine WC.cond rfl (fun g106 => ?_) (fun g106 => ?_)
            · refine WC.exit ?_
              refine WC.region ?_
              refine WL.y (Yl.add rfl rfl (IntWalk.i64_in _ (by omega))) rfl ?_ -- t218
              refine WL.y (Yl.move rfl) rfl ?_ -- t52
              refine WL.nil ?_
              have hd0 : o.B.isDue o.now = false := by
                cases hdd : o.B.isDue o.now with
                | false => rfl
                | true => simp [Jb.next, hdd] at g106
              have e : (o.B.next o.now (.int .u32 0)).1 = o.B := by unfold Jb.next; rw [hd0]; rfl
              rw [e]
              exact ⟨(j + 1, o, Dl), rfl, ⟨by dsimp only; omega, hI⟩, by dsimp only; omega, (by repeat (first | exact Sub.nil | refine Sub.cons rfl ?_)), _, (by repeat (first | exact TakeL.nil | (apply TakeL.cons; · repeat (first | exact Take1.head | apply Take1.tail))))⟩
            · refine WC.skip ?_
              refine WC.seq ?_
              refine WC.midX (α := Unit) (fun _ => [(133, .bool false), (0, .int .u64 d), (1, .int .u64 s), (6, .pointer (some ⟨b6, 0, none⟩)), (7, .pointer (some ⟨b, 0, none⟩)), (9, .int .u64 o.now), (10, .bool o.so), (11, .int .u64 o.la), (12, .int .u64 o.fi), (13, .int .u64 o.tm), (14, .pointer (some ⟨b14, 0, none⟩)), (15, .int .u64 o.pu), (16, .int .u64 o.pl), (17, .int .i64 (j : Int)), (50, .slice al l.length cl), (51, .int .i64 (l.length : Int)), (52, .int .i64 (j : Int)), (22, .int .u32 ((mget o.m o.B.nx).getD 0)), (23, .int .u64 o.B.nx), (24, .bool (!(mget o.m o.B.nx).isSome)), (25, .bool true)]) (fun _ => [markR Dl, blkR b6 4 [.bool false], blkR b 97 (o.B.step.cells m), mapR (Value.int .u64) vI m o.B.step.m, blkR b14 63 [.map (some b49)], mapR (Value.int .u64) vW b49 o.m, rdR (.slice al l.length cl) 5 l.length (vcs Dj.val l)]) (fun _ => True) ?_ ?_
              · have hd1 : o.B.isDue o.now = true := by
                  cases hdd : o.B.isDue o.now with
                  | true => rfl
                  | false => simp [Jb.next, hdd] at g106
                obtain ⟨hIn, hN1, hN2, hN3⟩ := on_next hI hll0 (by omega) hd1
                have hn : o.B.next o.now (.int .u32 0) = (o.B.step, ((mget o.m o.B.nx).map vW).getD (.int .u32 0), o.B.nx, !(mget o.m o.B.nx).isSome, true) := by
                  unfold Jb.next
                  rw [if_pos hd1, on_get hI]
                  cases mget o.m o.B.nx <;> rfl
                rw [hn, getW]
                dsimp only
                have hnxU := hI.ok.nx
                refine WC.region ?_
                refine WL.y (Yl.move rfl) rfl ?_ -- t107
                refine WL.y (Yl.move rfl) rfl ?_ -- t108
                refine WL.both (t := 108) rfl (fun g108 => ?_) (fun g108 => ?_)
                · refine WL.on rfl rfl ?_
                  refine WL.y (Yl.move rfl) rfl ?_ -- t109
                  refine WL.on rfl rfl ?_
                  refine WL.y (Yl.move rfl) rfl ?_ -- t110
                  refine WL.on rfl rfl ?_
                  refine WL.y (Yl.add rfl rfl rfl) rfl ?_ -- t111
                  refine WL.say (t := 111) (v' := .int .u64 (wr (o.la + 1))) rfl (by rfl) ?_
                  refine WL.on rfl rfl ?_
                  refine WL.y (Yl.neq rfl rfl) rfl ?_ -- t112
                  refine WL.know (t := 112) (b' := false) rfl (by simp [hN1 g108]) ?_
                  refine WL.y (Yl.pickT rfl rfl) rfl ?_ -- t113
                  refine WL.know (t := 113) (b' := false) rfl (by first | rfl | (simp; done) | (simp; omega)) ?_
                  refine WL.y (Yl.move rfl) rfl ?_ -- t114
                  refine WL.on rfl rfl ?_
                  refine WL.y (Yl.move rfl) rfl ?_ -- t115
                  refine WL.on rfl rfl ?_
                  refine WL.y (Yl.move rfl) rfl ?_ -- t116
                  refine WL.on rfl rfl ?_
                  refine WL.y (Yl.move rfl) rfl ?_ -- t117
                  refine WL.on rfl rfl ?_
                  refine WL.y (Yl.add rfl rfl rfl) rfl ?_ -- t118
                  refine WL.say (t := 118) (v' := .int .u64 (wr (o.tm + d))) rfl (by rfl) ?_
                  refine WL.on rfl rfl ?_
                  refine WL.y (Yl.lss rfl rfl) rfl ?_ -- t119
                  refine WL.know (t := 119) (b' := false) rfl (decide_eq_false (by omega)) ?_
                  refine WL.y (Yl.pickF rfl rfl) rfl ?_ -- t120
                  refine WL.know (t := 120) (b' := false) rfl (by first | rfl | (simp; done) | (simp; omega)) ?_
                  refine WL.y (Yl.move rfl) rfl ?_ -- t121
                  refine WL.on rfl rfl ?_
                  refine WL.y (Yl.move rfl) rfl ?_ -- t122
                  refine WL.on rfl rfl ?_
                  refine WL.y (Yl.move rfl) rfl ?_ -- t123
                  refine WL.on rfl rfl ?_
                  refine WL.y (Yl.sub rfl rfl rfl) rfl ?_ -- t124
                  refine WL.say (t := 124) (v' := .int .u64 (wr (o.B.nx - o.fi))) rfl (by rfl) ?_
                  refine WL.on rfl rfl ?_
                  refine WL.y (Yl.move rfl) rfl ?_ -- t125
                  refine WL.on rfl rfl ?_
                  refine WL.y (Yl.move rfl) rfl ?_ -- t126
                  refine WL.on rfl rfl ?_
                  refine WL.y (Yl.sub rfl rfl rfl) rfl ?_ -- t127
                  refine WL.say (t := 127) (v' := .int .u64 (wr (o.now - o.tm))) rfl (by rfl) ?_
                  refine WL.on rfl rfl ?_
                  refine WL.y (Yl.move rfl) rfl ?_ -- t128
                  refine WL.on rfl rfl ?_
                  refine WL.y (Yl.sub rfl rfl rfl) rfl ?_ -- t129
                  refine WL.say (t := 129) (v' := .int .u64 (wr (wr (o.now - o.tm) - d))) rfl (by rfl) ?_
                  refine WL.on rfl rfl ?_
                  refine WL.y (Yl.move rfl) rfl ?_ -- t130
                  refine WL.on rfl rfl ?_
                  refine WL.y (Yl.quo rfl rfl hs0 (u64_quo (wr_u _) hs.1)) rfl ?_
                  refine WL.on rfl rfl ?_
                  refine WL.y (Yl.gtr rfl rfl) rfl ?_ -- t132
                  refine WL.know (t := 132) (b' := false) rfl (decide_eq_false (by omega)) ?_
                  refine WL.y (Yl.pickF rfl rfl) rfl ?_ -- t133
                  refine WL.say (t := 133) (v' := .bool false) rfl (by rfl) ?_
                  refine WL.nil ?_
                  exact ⟨rfl, (), trivial, (by repeat (first | exact Sub.nil | refine Sub.cons rfl ?_)), _, (by repeat (first | exact TakeL.nil | (apply TakeL.cons; · repeat (first | exact Take1.head | apply Take1.tail))))⟩
                · refine WL.off rfl rfl rfl rfl ?_ -- t109
                  refine WL.off rfl rfl rfl rfl ?_ -- t110
                  refine WL.off rfl rfl rfl rfl ?_ -- t111
                  refine WL.off rfl rfl rfl rfl ?_ -- t112
                  refine WL.y (Yl.pickF rfl rfl) rfl ?_ -- t113
                  refine WL.know (t := 113) (b' := false) rfl (by first | rfl | (simp; done) | (simp; omega)) ?_
                  refine WL.y (Yl.move rfl) rfl ?_ -- t114
                  refine WL.on rfl rfl ?_
                  refine WL.y (Yl.move rfl) rfl ?_ -- t115
                  refine WL.on rfl rfl ?_
                  refine WL.y (Yl.move rfl) rfl ?_ -- t116
                  refine WL.on rfl rfl ?_
                  refine WL.y (Yl.move rfl) rfl ?_ -- t117
                  refine WL.on rfl rfl ?_
                  refine WL.y (Yl.add rfl rfl rfl) rfl ?_ -- t118
                  refine WL.say (t := 118) (v' := .int .u64 (wr (o.tm + d))) rfl (by rfl) ?_
                  refine WL.on rfl rfl ?_
                  refine WL.y (Yl.lss rfl rfl) rfl ?_ -- t119
                  refine WL.know (t := 119) (b' := false) rfl (decide_eq_false (by omega)) ?_
                  refine WL.y (Yl.pickF rfl rfl) rfl ?_ -- t120
                  refine WL.know (t := 120) (b' := false) rfl (by first | rfl | (simp; done) | (simp; omega)) ?_
                  refine WL.y (Yl.move rfl) rfl ?_ -- t121
                  refine WL.on rfl rfl ?_
                  refine WL.y (Yl.move rfl) rfl ?_ -- t122
                  refine WL.on rfl rfl ?_
                  refine WL.y (Yl.move rfl) rfl ?_ -- t123
                  refine WL.on rfl rfl ?_
                  refine WL.y (Yl.sub rfl rfl rfl) rfl ?_ -- t124
                  refine WL.say (t := 124) (v' := .int .u64 (wr (o.B.nx - o.fi))) rfl (by rfl) ?_
                  refine WL.on rfl rfl ?_
                  refine WL.y (Yl.move rfl) rfl ?_ -- t125
                  refine WL.on rfl rfl ?_
                  refine WL.y (Yl.move rfl) rfl ?_ -- t126
                  refine WL.on rfl rfl ?_
                  refine WL.y (Yl.sub rfl rfl rfl) rfl ?_ -- t127
                  refine WL.say (t := 127) (v' := .int .u64 (wr (o.now - o.tm))) rfl (by rfl) ?_
                  refine WL.on rfl rfl ?_
                  refine WL.y (Yl.move rfl) rfl ?_ -- t128
                  refine WL.on rfl rfl ?_
                  refine WL.y (Yl.sub rfl rfl rfl) rfl ?_ -- t129
                  refine WL.say (t := 129) (v' := .int .u64 (wr (wr (o.now - o.tm) - d))) rfl (by rfl) ?_
                  refine WL.on rfl rfl ?_
                  refine WL.y (Yl.move rfl) rfl ?_ -- t130
                  refine WL.on rfl rfl ?_
                  refine WL.y (Yl.quo rfl rfl hs0 (u64_quo (wr_u _) hs.1)) rfl ?_
                  refine WL.on rfl rfl ?_
                  refine WL.y (Yl.gtr rfl rfl) rfl ?_ -- t132
                  refine WL.know (t := 132) (b' := false) rfl (decide_eq_false (by omega)) ?_
                  refine WL.y (Yl.pickF rfl rfl) rfl ?_ -- t133
                  refine WL.say (t := 133) (v' := .bool false) rfl (by rfl) ?_
                  refine WL.nil ?_
                  exact ⟨rfl, (), trivial, (by repeat (first | exact Sub.nil | refine Sub.cons rfl ?_)), _, (by repeat (first | exact TakeL.nil | (apply TakeL.cons; · repeat (first | exact Take1.head | apply Take1.tail))))⟩
              · rintro ⟨⟩ -
                have hd1 : o.B.isDue o.now = true := by
                  cases hdd : o.B.isDue o.now with
                  | true => rfl
                  | false => simp [Jb.next, hdd] at g106
                obtain ⟨hIn, _⟩ := on_next hI hll0 (by omega) hd1
                have hnxU := hI.ok.nx
                refine WC.condF rfl (by first | rfl | (simp; done) | (simp; omega)) ?_
                refine WC.skip ?_
                refine WC.seq ?_
                refine WC.region ?_
                refine WL.y (Yl.move rfl) rfl ?_ -- t134
                refine WL.y (Yl.assign rfl) rfl ?_ -- t10
                refine WL.y (Yl.assign rfl) rfl ?_ -- t11
                refine WL.nil ?_
                refine WC.seq ?_
                refine WC.region ?_
                refine WL.y (Yl.load on63 rfl (by repeat (first | exact Take1.head | apply Take1.tail)) (by rfl)) rfl ?_ -- t136
                refine WL.y (Yl.move rfl) rfl ?_ -- t137
                refine WL.y (Yl.lookupOk (kv := Value.int .u64) keyU un63 (fun _ => by kernel_rfl) (z := .int .u32 0) hI.kU rfl rfl hnxU (MReads.of (m := o.m) MapOf.own (by repeat (first | exact Take1.head | apply Take1.tail)))) rfl ?_ -- t138
                rw [getW]
                refine WL.y (Yl.move rfl) rfl ?_ -- t135
                refine WL.y (Yl.extract rfl rfl) rfl ?_ -- t139
                refine WL.y (Yl.extract rfl rfl) rfl ?_ -- t140
                refine WL.y (Yl.assign rfl) rfl ?_ -- t26
                refine WL.y (Yl.assign rfl) rfl ?_ -- t27
                refine WL.nil ?_
                refine WC.seq ?_
                refine WC.midX (α := Unit) (fun _ => [(151, .bool false), (26, .int .u32 ((mget o.m o.B.nx).getD 0)), (27, .bool (mget o.m o.B.nx).isSome), (0, .int .u64 d), (1, .int .u64 s), (6, .pointer (some ⟨b6, 0, none⟩)), (7, .pointer (some ⟨b, 0, none⟩)), (9, .int .u64 o.now), (10, .bool true), (11, .int .u64 o.B.nx), (12, .int .u64 o.fi), (13, .int .u64 o.tm), (14, .pointer (some ⟨b14, 0, none⟩)), (15, .int .u64 o.pu), (16, .int .u64 o.pl), (17, .int .i64 (j : Int)), (50, .slice al l.length cl), (51, .int .i64 (l.length : Int)), (52, .int .i64 (j : Int)), (22, .int .u32 ((mget o.m o.B.nx).getD 0)), (23, .int .u64 o.B.nx), (24, .bool (!(mget o.m o.B.nx).isSome)), (25, .bool true)]) (fun _ => [markR Dl, blkR b6 4 [.bool false], blkR b 97 (o.B.step.cells m), mapR (Value.int .u64) vI m o.B.step.m, blkR b14 63 [.map (some b49)], mapR (Value.int .u64) vW b49 o.m, rdR (.slice al l.length cl) 5 l.length (vcs Dj.val l)]) (fun _ => True) ?_ ?_
                · refine WC.region ?_
                  refine WL.y (Yl.move rfl) rfl ?_ -- t141
                  refine WL.y (Yl.move rfl) rfl ?_ -- t142
                  refine WL.y (Yl.bEq un4 rfl rfl) rfl ?_ -- t143
                  refine WL.know (t := 143) (b' := false) rfl (by cases (mget o.m o.B.nx).isSome <;> rfl) ?_
                  refine WL.y (Yl.move rfl) rfl ?_ -- t144
                  refine WL.on rfl rfl ?_
                  refine WL.y (Yl.move rfl) rfl ?_ -- t145
                  refine WL.on rfl rfl ?_
                  refine WL.y (Yl.move rfl) rfl ?_ -- t146
                  refine WL.both (t := 146) rfl (fun g146 => ?_) (fun g146 => ?_)
                  · refine WL.on rfl rfl ?_
                    refine WL.y (Yl.move rfl) rfl ?_ -- t147
                    refine WL.on rfl rfl ?_
                    refine WL.y (Yl.move rfl) rfl ?_ -- t148
                    refine WL.on rfl rfl ?_
                    refine WL.y (Yl.neq rfl rfl) rfl ?_ -- t149
                    refine WL.know (t := 149) (b' := false) rfl (by simp) ?_
                    refine WL.on rfl rfl ?_
                    refine WL.y (Yl.pickT rfl rfl) rfl ?_ -- t150
                    refine WL.y (Yl.pickF rfl rfl) rfl ?_ -- t151
                    refine WL.say (t := 151) (v' := .bool false) rfl (by rfl) ?_
                    refine WL.nil ?_
                    exact ⟨rfl, (), trivial, (by repeat (first | exact Sub.nil | refine Sub.cons rfl ?_)), _, (by repeat (first | exact TakeL.nil | (apply TakeL.cons; · repeat (first | exact Take1.head | apply Take1.tail))))⟩
                  · refine WL.off rfl rfl rfl rfl ?_ -- t147
                    refine WL.off rfl rfl rfl rfl ?_ -- t148
                    refine WL.off rfl rfl rfl rfl ?_ -- t149
                    refine WL.on rfl rfl ?_
                    refine WL.y (Yl.pickF rfl rfl) rfl ?_ -- t150
                    refine WL.y (Yl.pickF rfl rfl) rfl ?_ -- t151
                    refine WL.say (t := 151) (v' := .bool false) rfl (by rfl) ?_
                    refine WL.nil ?_
                    exact ⟨rfl, (), trivial, (by repeat (first | exact Sub.nil | refine Sub.cons rfl ?_)), _, (by repeat (first | exact TakeL.nil | (apply TakeL.cons; · repeat (first | exact Take1.head | apply Take1.tail))))⟩
                · rintro ⟨⟩ -
                  refine WC.condF rfl (by first | rfl | (simp; done) | (simp; omega)) ?_
                  refine WC.skip ?_
                  refine WC.seq ?_
                  refine WC.region ?_
                  refine WL.y (Yl.move rfl) rfl ?_ -- t152
                  refine WL.nil ?_
                  refine WC.cond rfl (fun g152 => ?_) (fun g152 => ?_)
                  · refine WC.seq ?_
                    refine WC.region ?_
                    refine WL.y (Yl.move rfl) rfl ?_ -- t153
                    refine WL.y (Yl.add rfl rfl rfl) rfl ?_ -- t154
                    refine WL.say (t := 154) (v' := .int .u64 (o.pl + 1)) rfl (by (refine congrArg _ (wr1 ?_); have := hI.k; have := hI.cnt; have := hI.pos; have := hI.pu; omega)) ?_
                    refine WL.y (Yl.assign rfl) rfl ?_ -- t16
                    refine WL.nil ?_
                    refine WC.region ?_
                    refine WL.y (Yl.load on63 rfl (by repeat (first | exact Take1.head | apply Take1.tail)) (by rfl)) rfl ?_ -- t155
                    refine WL.y (Yl.move rfl) rfl ?_ -- t156
                    refine WL.eff (Eff.mapDel (q := o.B.nx) (m := o.m) (kv := Value.int .u64) (vv := vW) keyU un63 hI.kU rfl rfl hnxU (by repeat (first | exact Take1.head | apply Take1.tail))) ?_
                    refine WL.nil ?_
                    have e : o.next = ⟨o.B.step, o.now, true, o.B.nx, o.fi, o.tm, mdel o.m o.B.nx, o.pu, o.pl + 1⟩ := by unfold On.next; rw [if_pos g152]
                    rw [e] at hIn
                    exact ⟨rfl, _, hIn, (by repeat (first | exact Sub.nil | refine Sub.cons rfl ?_)), _, (by repeat (first | exact TakeL.nil | (apply TakeL.cons; · repeat (first | exact Take1.head | apply Take1.tail))))⟩
                  · refine WC.skip ?_
                    have e : o.next = ⟨o.B.step, o.now, true, o.B.nx, o.fi, o.tm, o.m, o.pu, o.pl⟩ := by unfold On.next; rw [if_neg (ne_true_of_eq_false g152), del_none g152]
                    rw [e] at hIn
                    exact ⟨rfl, _, hIn, (by repeat (first | exact Sub.nil | refine Sub.cons rfl ?_)), _, (by repeat (first | exact TakeL.nil | (apply TakeL.cons; · repeat (first | exact Take1.head | apply Take1.tail))))⟩
          · refine WC.skip ?_
            exact ⟨rfl, o, hI, (by repeat (first | exact Sub.nil | refine Sub.cons rfl ?_)), _, (by repeat (first | exact TakeL.nil | (apply TakeL.cons; · repeat (first | exact Take1.head | apply Take1.tail))))⟩
      · clear hI hI0 hI0n hpu0 hml0 hll0 e1 e2 e3 e4 e5 e6 e7 e8 e9 ho
        clear o
        rintro o hI
        refine WC.seq ?_
        refine WC.region ?_
        refine WL.y (Yl.move rfl) rfl ?_ -- t157
        refine WL.callC (xs := [.tmp 157]) (cap := []) rfl rfl en23 (by repeat (first | exact TakeL.nil | (apply TakeL.cons; · repeat (first | exact Take1.head | apply Take1.tail)))) (fun w hw => sumsU_any b m o.B w hw.left.here) rfl ?_ -- t158 (*hailer/jitter.Buffer[uint32]).Sums
        rintro ⟨⟩ -
        dsimp only [jb, List.cons_append, List.nil_append]
        obtain ⟨hS1, hS2, hS3⟩ := on_sums hI (by omega)
        refine WL.to (To.alloc (cs := List.replicate 6 (.int .u64 0)) zr66 rfl) rfl ?_ -- t28
        intro b28
        refine WL.sto (Sto.agg sz66 rfl rfl (by repeat (first | exact Take1.head | apply Take1.tail)) (fun v hv => by simp [Jb.sums] at hv; rcases hv with rfl | rfl | rfl | rfl | rfl | rfl <;> rfl) rfl (by rfl) (show _ = o.B.sums from rfl)) (fun _ h => nomatch h) ?_ -- st 9
        refine WL.nil ?_
        refine WC.seq ?_
        refine WC.seq ?_
        refine WC.region ?_
        refine WL.y (Yl.field fo66_0 rfl) rfl ?_ -- t159
        refine WL.y (Yl.load on22 rfl (by repeat (first | exact Take1.head | apply Take1.tail)) (by rfl)) rfl ?_ -- t160
        refine WL.y (Yl.field fo66_3 rfl) rfl ?_ -- t161
        refine WL.y (Yl.load on22 rfl (by repeat (first | exact Take1.head | apply Take1.tail)) (by rfl)) rfl ?_ -- t162
        refine WL.y (Yl.add rfl rfl rfl) rfl ?_ -- t163
        refine WL.y (Yl.field fo66_4 rfl) rfl ?_ -- t164
        refine WL.y (Yl.load on22 rfl (by repeat (first | exact Take1.head | apply Take1.tail)) (by rfl)) rfl ?_ -- t165
        refine WL.y (Yl.add rfl rfl rfl) rfl ?_ -- t166
        refine WL.y (Yl.field fo66_5 rfl) rfl ?_ -- t167
        refine WL.y (Yl.load on22 rfl (by repeat (first | exact Take1.head | apply Take1.tail)) (by rfl)) rfl ?_ -- t168
        refine WL.y (Yl.add rfl rfl rfl) rfl ?_ -- t169
        refine WL.say (t := 169) (v' := .int .u64 o.pu) rfl (by exact congrArg _ hS1) ?_
        refine WL.y (Yl.move rfl) rfl ?_ -- t170
        refine WL.y (Yl.neq rfl rfl) rfl ?_ -- t171
        refine WL.know (t := 171) (b' := false) rfl (by simp) ?_
        refine WL.y (Yl.move rfl) rfl ?_ -- t172
        refine WL.on rfl rfl ?_
        refine WL.y (Yl.field fo66_1 rfl) rfl ?_ -- t173
        refine WL.on rfl rfl ?_
        refine WL.y (Yl.load on22 rfl (by repeat (first | exact Take1.head | apply Take1.tail)) (by rfl)) rfl ?_ -- t174
        refine WL.on rfl rfl ?_
        refine WL.y (Yl.move rfl) rfl ?_ -- t175
        refine WL.on rfl rfl ?_
        refine WL.y (Yl.neq rfl rfl) rfl ?_ -- t176
        refine WL.know (t := 176) (b' := false) rfl (by simp [hS2]) ?_
        refine WL.y (Yl.pickF rfl rfl) rfl ?_ -- t177
        refine WL.y (Yl.move rfl) rfl ?_ -- t178
        refine WL.on rfl rfl ?_
        refine WL.y (Yl.field fo66_0 rfl) rfl ?_ -- t179
        refine WL.on rfl rfl ?_
        refine WL.y (Yl.load on22 rfl (by repeat (first | exact Take1.head | apply Take1.tail)) (by rfl)) rfl ?_ -- t180
        refine WL.on rfl rfl ?_
        refine WL.y (Yl.move rfl) rfl ?_ -- t181
        refine WL.on rfl rfl ?_
        refine WL.y (Yl.load on63 rfl (by repeat (first | exact Take1.head | apply Take1.tail)) (by rfl)) rfl ?_ -- t182
        refine WL.on rfl rfl ?_
        refine WL.y (Yl.lenM un63 rfl (MReads.of (m := o.m) MapOf.own (by repeat (first | exact Take1.head | apply Take1.tail)))) rfl ?_ -- t183
        refine WL.on rfl rfl ?_
        refine WL.y (Yl.conv un3 un22 rfl (wr_in ⟨by omega, by have := hI.ml; omega⟩)) rfl ?_ -- t184
        refine WL.on rfl rfl ?_
        refine WL.y (Yl.add rfl rfl rfl) rfl ?_ -- t185
        refine WL.say (t := 185) (v' := .int .u64 (wr (o.pl + (o.m.length : Int)))) rfl (by rfl) ?_
        refine WL.on rfl rfl ?_
        refine WL.y (Yl.neq rfl rfl) rfl ?_ -- t186
        refine WL.know (t := 186) (b' := false) rfl (by simp [← hS3]) ?_
        refine WL.y (Yl.pickF rfl rfl) rfl ?_ -- t187
        refine WL.know (t := 187) (b' := false) rfl (by first | rfl | (simp; done) | (simp; omega)) ?_
        refine WL.nil ?_
        refine WC.condF rfl (by first | rfl | (simp; done) | (simp; omega)) ?_
        refine WC.skip ?_
        refine WC.seq ?_
        refine WC.region ?_
        refine WL.y (Yl.move rfl) rfl ?_ -- t188
        refine WL.y (Yl.rem rfl rfl (by omega) (i64_rem (by omega))) rfl ?_ -- t189
        refine WL.y (Yl.eql rfl rfl) rfl ?_ -- t190
        refine WL.nil ?_
        refine WC.condD rfl (fun g190 => ?_) (fun g190 => ?_)
        · refine WC.seq ?_
          refine WC.region ?_
          refine WL.to (To.alloc (cs := [.int .i64 0]) zr3 rfl) rfl ?_ -- t29
          intro b29
          refine WL.sto (Sto.one sz3 rfl rfl (by repeat (first | exact Take1.head | apply Take1.tail)) rfl (by rfl) (by rfl)) (fun _ h => nomatch h) ?_ -- st 11
          refine WL.nil ?_
          refine WC.seq ?_
          refine WC.seq ?_
          have hmlen : o.B.m.length = o.m.length := by rw [hI.m, mapW_len]
          have hol := hI.ml
          refine WC.region ?_
          refine WL.y (Yl.move rfl) rfl ?_ -- t191
          refine WL.callC (xs := [.tmp 191]) (cap := []) rfl rfl en15 (by repeat (first | exact TakeL.nil | (apply TakeL.cons; · repeat (first | exact Take1.head | apply Take1.tail)))) (fun w hw => alO_any b w hw.left.here) rfl ?_ -- t192 (*hailer/jitter.Buffer[uint32]).All
          rintro b1 -
          dsimp only [List.cons_append, List.nil_append]
          refine WL.nil ?_
          refine WC.block ?_
          refine WC.rangeW (α := Unit) (A := alR 25 97 b1 b m o.B) (E := alR 25 97 b1 b m o.B) (Ex := fun _ => alR 25 97 b1 b m o.B) (lb := [.pointer (some ⟨b1, 0, none⟩)]) (xs := ysAU o.B.m) (fun i _ => [blkR b14 63 [.map (some b49)], mapR (Value.int .u64) vW b49 o.m, blkR b29 3 [.int .i64 (i : Int)]]) (fun _ _ => True) () rfl en42 ysAU_size rfl (by repeat (first | exact TakeL.nil | (apply TakeL.cons; · repeat (first | exact Take1.head | apply Take1.tail)))) (al_iterW b1 b m o.B hI.ok (by omega)) rfl (fun _ => rfl) trivial (by repeat (first | exact TakeL.nil | (apply TakeL.cons; · repeat (first | exact Take1.head | apply Take1.tail)))) ?_ ?_
          · rintro l2 i y _ hy _ W
            have hil : i < o.m.length := by
              have := (List.getElem?_eq_some_iff.1 hy).1
              rw [ysAU_len] at this
              omega
            obtain ⟨k, hk, rfl⟩ := ysA_at hy
            have hks := asc_mem hk
            have hkU : U6 k := by
              obtain ⟨u, hu⟩ := Option.isSome_iff_exists.1 hks
              cases e : mget o.B.m k with
              | none => rw [e] at hks; cases hks
              | some u =>
                have : ∃ p ∈ o.B.m, p.1 = k := by
                  by_cases h : ∃ p ∈ o.B.m, p.1 = k
                  · exact h
                  · have := mget_none.2 (fun p hp he => h ⟨p, hp, he⟩)
                    rw [this] at hks; cases hks
                obtain ⟨p, hp, rfl⟩ := this
                exact hI.ok.m p hp
            rw [on_get hI, getW]
            rw [on_get hI] at hks
            have hks' : (mget o.m k).isSome = true := by simpa using hks
            show WC _ _ _ ((194, .int .u32 ((mget o.m k).getD 0)) :: (193, .int .u64 k) :: _) _ _
            refine WC.seq ?_
            refine WC.region ?_
            refine WL.y (Yl.assign rfl) rfl ?_ -- t30
            refine WL.nil ?_
            refine WC.region ?_
            refine WL.y (Yl.assign rfl) rfl ?_ -- t31
            refine WL.nil ?_
            repeat (first | (with_reducible refine peelT ?_) | (with_reducible refine peelB ?_) | (with_reducible refine peelTX ?_) | (with_reducible refine peelBX ?_) | (with_reducible refine peelBN ?_) | (with_reducible refine peelBO rfl ?_))
            refine fun W2 => ?_
            refine WC.block ?_
            refine WC.seq ?_
            refine WC.seq ?_
            refine WC.region ?_
            refine WL.y (Yl.load on63 rfl (by repeat (first | exact Take1.head | apply Take1.tail)) (by rfl)) rfl ?_ -- t196
            refine WL.y (Yl.move rfl) rfl ?_ -- t197
            refine WL.y (Yl.lookupOk (kv := Value.int .u64) keyU un63 (fun _ => by kernel_rfl) (z := .int .u32 0) hI.kU rfl rfl hkU (MReads.of (m := o.m) MapOf.own (by repeat (first | exact Take1.head | apply Take1.tail)))) rfl ?_ -- t198
            rw [getW, hks']
            refine WL.y (Yl.move rfl) rfl ?_ -- t195
            refine WL.y (Yl.extract rfl rfl) rfl ?_ -- t199
            refine WL.y (Yl.extract rfl rfl) rfl ?_ -- t200
            refine WL.y (Yl.assign rfl) rfl ?_ -- t32
            refine WL.y (Yl.assign rfl) rfl ?_ -- t33
            refine WL.nil ?_
            refine WC.seq ?_
            refine WC.region ?_
            refine WL.y (Yl.move rfl) rfl ?_ -- t201
            refine WL.y (Yl.not rfl) rfl ?_ -- t202
            refine WL.know (t := 202) (b' := false) rfl (by first | rfl | (simp; done) | (simp; omega)) ?_
            refine WL.y (Yl.move rfl) rfl ?_ -- t203
            refine WL.on rfl rfl ?_
            refine WL.y (Yl.move rfl) rfl ?_ -- t204
            refine WL.on rfl rfl ?_
            refine WL.y (Yl.move rfl) rfl ?_ -- t205
            refine WL.on rfl rfl ?_
            refine WL.y (Yl.neq rfl rfl) rfl ?_ -- t206
            refine WL.know (t := 206) (b' := false) rfl (by simp) ?_
            refine WL.y (Yl.pickF rfl rfl) rfl ?_ -- t207
            refine WL.know (t := 207) (b' := false) rfl (by first | rfl | (simp; done) | (simp; omega)) ?_
            refine WL.nil ?_
            refine WC.condF rfl (by first | rfl | (simp; done) | (simp; omega)) ?_
            refine WC.skip ?_
            refine WC.seq ?_
            refine WC.region ?_
            refine WL.y (Yl.load on3 rfl (by repeat (first | exact Take1.head | apply Take1.tail)) (by rfl)) rfl ?_ -- t208
            refine WL.y (Yl.add rfl rfl (IntWalk.i64_in _ (by omega))) rfl ?_ -- t209
            refine WL.say (t := 209) (v' := .int .i64 ((i + 1 : Nat) : Int)) rfl (by rfl) ?_
            refine WL.sto (Sto.one sz3 rfl rfl (by repeat (first | exact Take1.head | apply Take1.tail)) rfl (by rfl) (by rfl)) (fun _ h => nomatch h) ?_ -- st 13
            refine WL.nil ?_
            refine WC.seq ?_
            refine WC.region ?_
            refine WL.y (Yl.load on3 rfl (by repeat (first | exact Take1.head | apply Take1.tail)) (by rfl)) rfl ?_ -- t210
            refine WL.y (Yl.load on63 rfl (by repeat (first | exact Take1.head | apply Take1.tail)) (by rfl)) rfl ?_ -- t211
            refine WL.y (Yl.lenM un63 rfl (MReads.of (m := o.m) MapOf.own (by repeat (first | exact Take1.head | apply Take1.tail)))) rfl ?_ -- t212
            refine WL.y (Yl.gtr rfl rfl) rfl ?_ -- t213
            refine WL.know (t := 213) (b' := false) rfl (by simp; omega) ?_
            refine WL.nil ?_
            refine WC.condF rfl (by first | rfl | (simp; done) | (simp; omega)) ?_
            refine WC.skip ?_
            repeat (first | (with_reducible refine peelT ?_) | (with_reducible refine peelB ?_) | (with_reducible refine peelTX ?_) | (with_reducible refine peelBX ?_) | (with_reducible refine peelBN ?_) | (with_reducible refine peelBO rfl ?_))
            exact ⟨[blkR b14 63 [.map (some b49)], mapR (Value.int .u64) vW b49 o.m, blkR b29 3 [.int .i64 ((i + 1 : Nat) : Int)]], _, (by repeat (first | exact TakeL.nil | (apply TakeL.cons; · repeat (first | exact Take1.head | apply Take1.tail)))), (), trivial, rfl⟩
          · rintro _ D -
            rw [ysAU_len, hmlen]
            dsimp only [alR, List.cons_append, List.nil_append]
            refine WC.seq ?_
            refine WC.view (fun w h => h.markAdd (D := D) (Dl := Dl) (by repeat (first | exact Take1.head | apply Take1.tail)) (by repeat (first | exact Take1.head | apply Take1.tail))) ?_
            refine WC.region ?_
            refine WL.y (Yl.load on3 rfl (by repeat (first | exact Take1.head | apply Take1.tail)) (by rfl)) rfl ?_ -- t214
            refine WL.y (Yl.load on63 rfl (by repeat (first | exact Take1.head | apply Take1.tail)) (by rfl)) rfl ?_ -- t215
            refine WL.y (Yl.lenM un63 rfl (MReads.of (m := o.m) MapOf.own (by repeat (first | exact Take1.head | apply Take1.tail)))) rfl ?_ -- t216
            refine WL.y (Yl.neq rfl rfl) rfl ?_ -- t217
            refine WL.know (t := 217) (b' := false) rfl (by simp) ?_
            refine WL.nil ?_
            refine WC.condF rfl (by first | rfl | (simp; done) | (simp; omega)) ?_
            refine WC.skip ?_
            refine WC.region ?_
            refine WL.y (Yl.add rfl rfl (IntWalk.i64_in _ (by omega))) rfl ?_ -- t218
            refine WL.y (Yl.move rfl) rfl ?_ -- t52
            refine WL.nil ?_
            exact ⟨(j + 1, o, D :: Dl), rfl, ⟨by dsimp only; omega, hI⟩, by dsimp only; omega, (by repeat (first | exact Sub.nil | refine Sub.cons rfl ?_)), _, (by repeat (first | exact TakeL.nil | (apply TakeL.cons; · repeat (first | exact Take1.head | apply Take1.tail))))⟩
        · refine WC.skip ?_
          refine WC.region ?_
          refine WL.y (Yl.add rfl rfl (IntWalk.i64_in _ (by omega))) rfl ?_ -- t218
          refine WL.y (Yl.move rfl) rfl ?_ -- t52
          refine WL.nil ?_
          exact ⟨(j + 1, o, Dl), rfl, ⟨by dsimp only; omega, hI⟩, by dsimp only; omega, (by repeat (first | exact Sub.nil | refine Sub.cons rfl ?_)), _, (by repeat (first | exact TakeL.nil | (apply TakeL.cons; · repeat (first | exact Take1.head | apply Take1.tail))))⟩
    · refine WC.exit ?_
      refine WC.seq ?_
      refine WC.view (fun w h => h.markEnd (Dl := Dl) (by repeat (first | exact Take1.head | apply Take1.tail))) ?_
      dsimp only [List.cons_append, List.nil_append]
      refine WC.region ?_
      refine WL.sto (Sto.one sz4 rfl rfl (by repeat (first | exact Take1.head | apply Take1.tail)) rfl (by rfl) (by rfl)) (fun _ h => nomatch h) ?_ -- st 16
      refine WL.nil ?_
      refine WC.ret ?_
      repeat (first | (with_reducible refine peelT ?_) | (with_reducible refine peelB ?_) | (with_reducible refine peelTX ?_) | (with_reducible refine peelBX ?_) | (with_reducible refine peelBN ?_) | (with_reducible refine peelBO rfl ?_))
      refine retM.of (marks_end Dl [blkR b6 4 [.bool true], blkR b 97 (o0.B.cells m), mapR (Value.int .u64) vI m o0.B.m, blkR b14 63 [.map (some b49)], mapR (Value.int .u64) vW b49 o0.m, rdR (.slice al l.length cl) 5 l.length (vcs Dj.val l)]) ?_
      exact retV1 (.inr rfl) Try.results5 on4 rfl (by repeat (first | exact Take1.head | apply Take1.tail)) fun w' h => ⟨(), trivial, rfl, h.sub (by repeat (first | exact TakeL.nil | (apply TakeL.cons; · repeat (first | exact Take1.head | apply Take1.tail))))⟩
theorem mayJ_true {d s : Int} (h : mayJ d s = true) : d ≤ 4294967296 ∧ 0 < s ∧ s ≤ 4294967296 := by
  unfold mayJ at h
  simp only [Bool.and_eq_true, decide_eq_true_eq] at h
  exact ⟨h.1.1, h.1.2, h.2⟩
theorem once_any (d s : Int) (l : List Dj) (v : Value) (hd : U6 d) (hs : U6 s) (hG : ∀ x ∈ l, x.ok) (w : World) (hw : OK w (fpL [rdR v 5 l.length (vcs Dj.val l)]) [rdR v 5 l.length (vcs Dj.val l)] w) :
    Fn Try.prog 5 [.int .u64 d, .int .u64 s, v] [rdR v 5 l.length (vcs Dj.val l)] w (fun _ : Unit => True) (fun _ => .bool true) (fun _ => []) := by
  cases hm : mayJ d s with
  | false => exact once_bad d s l v hd hs hm w hw
  | true =>
    obtain ⟨h1, h2, h3⟩ := mayJ_true hm
    exact once_good d s l v hG ⟨hd.1, h1⟩ ⟨h2, h3⟩ w hw
end Go.Proofs.Ytklbmgfpnafdlaa
