/- A bounded list of numbers: cleared of what a predicate tells, gone over; whether what is gone over is this: the walks. -/
import Derived.Test.YtpjgmiemamcdhaaLogBU
import Derived.Test.YtpjgmiemamcdhaaLibY
namespace Go.Proofs.Ytpjgmiemamcdhaa
open Go Go.RowKit

theorem dropU_any (b : Nat) (most : Int) (ao : Option Addr) (cap : Nat) (xs : List Int) (pf : FuncId) (pc : List Value) (p : Int → Bool) (hl : xs.length ≤ 1000000) (w : World)
    (hw : OK w (fpL [blkR b 81 [.slice ao xs.length cap, .int .i64 most], ownR (.slice ao xs.length cap) 23 1 xs.length (vcs (Value.int .u32) xs)]) [blkR b 81 [.slice ao xs.length cap, .int .i64 most], ownR (.slice ao xs.length cap) 23 1 xs.length (vcs (Value.int .u32) xs)] w)
    (hp : PredS Try.prog w (fpL [blkR b 81 [.slice ao xs.length cap, .int .i64 most], ownR (.slice ao xs.length cap) 23 1 xs.length (vcs (Value.int .u32) xs)]) pf pc (fun _ => True) (Value.int .u32) p) :
    Fn Try.prog 12 [.pointer (some ⟨b, 0, none⟩), .func (.func pf) #[] pc.toArray] [blkR b 81 [.slice ao xs.length cap, .int .i64 most], ownR (.slice ao xs.length cap) 23 1 xs.length (vcs (Value.int .u32) xs)] w (fun _ : Option Addr × Nat => True) (fun _ => .int .i64 ((xs.length - (xs.filter fun x => !p x).length : Nat) : Int))
      (fun y => [blkR b 81 [.slice y.1 (xs.filter fun x => !p x).length y.2, .int .i64 most], ownR (.slice y.1 (xs.filter fun x => !p x).length y.2) 23 1 (xs.filter fun x => !p x).length (vcs (Value.int .u32) (xs.filter fun x => !p x))]) := by
  have hfl := List.length_filter_le (fun x => !p x) xs
  refine enterF Try.func12 rfl Try.ntmps12 rfl hw ?_
  refine WC.seq ?_
  refine WC.region ?_
  refine WL.y (Yl.assign rfl) rfl ?_ -- t4
  refine WL.nil ?_
  refine WC.seq ?_
  refine WC.seq ?_
  refine WC.region ?_
  refine WL.y (Yl.move rfl) rfl ?_ -- t6
  refine WL.y (Yl.nilEq un25 rfl rfl) rfl ?_ -- t7
  refine WL.know (t := 7) (b' := false) rfl (by first | rfl | (simp; done) | (simp; omega)) ?_
  refine WL.nil ?_
  refine WC.condF rfl (by first | rfl | (simp; done) | (simp; omega)) ?_
  refine WC.skip ?_
  refine WC.seq ?_
  refine WC.region ?_
  refine WL.y (Yl.move rfl) rfl ?_ -- t8
  refine WL.y (Yl.nilCheck rfl) rfl ?_ -- t9
  refine WL.y (Yl.field fo81_0 rfl) rfl ?_ -- t10
  refine WL.y (Yl.load on22 rfl (by repeat (first | exact Take1.head | apply Take1.tail)) (by rfl)) rfl ?_ -- t11
  refine WL.y (Yl.len un22 rfl) rfl ?_ -- t12
  refine WL.y (Yl.assign rfl) rfl ?_ -- t5
  refine WL.nil ?_
  refine WC.seq ?_
  refine WC.region ?_
  refine WL.y (Yl.move rfl) rfl ?_ -- t13
  refine WL.y (Yl.move rfl) rfl ?_ -- t14
  refine WL.y (Yl.nilCheck rfl) rfl ?_ -- t15
  refine WL.y (Yl.field fo81_0 rfl) rfl ?_ -- t16
  refine WL.y (Yl.load on22 rfl (by repeat (first | exact Take1.head | apply Take1.tail)) (by rfl)) rfl ?_ -- t17
  refine WL.callC (xs := [.tmp 17]) (cap := []) rfl rfl en38 (by repeat (first | exact TakeL.nil | (apply TakeL.cons; · repeat (first | exact Take1.head | apply Take1.tail)))) (fun w hw => cloneU_any _ xs hl w (hw.src (A := []) RdOf.own (by repeat (first | exact Take1.head | apply Take1.tail))) hw.left.here) rfl ?_ -- t18 slices.Clone[[]uint32,uint32]
  rintro ⟨a18, c18⟩ -
  dsimp only
  refine WL.y (Yl.move rfl) rfl ?_ -- t19
  refine WL.callC (xs := [.tmp 18, .tmp 19]) (cap := []) rfl rfl en37 (by repeat (first | exact TakeL.nil | (apply TakeL.cons; · repeat (first | exact Take1.head | apply Take1.tail)))) (fun w hw => delU_any a18 c18 xs pf pc p hl w hw.left.here (hw.srcP (A := [_]) hp)) rfl ?_ -- t20 slices.DeleteFunc[[]uint32,uint32]
  rintro ⟨a20, c20⟩ -
  dsimp only
  refine WL.y (Yl.nilCheck rfl) rfl ?_ -- t21
  refine WL.y (Yl.field fo81_0 rfl) rfl ?_ -- t22
  refine WL.sto (Sto.one sz22 rfl rfl (by repeat (first | exact Take1.head | apply Take1.tail)) rfl (by rfl) (by rfl)) (fun _ h => nomatch h) ?_ -- st 1
  refine WL.nil ?_
  refine WC.seq ?_
  refine WC.region ?_
  refine WL.y (Yl.move rfl) rfl ?_ -- t23
  refine WL.y (Yl.move rfl) rfl ?_ -- t24
  refine WL.y (Yl.nilCheck rfl) rfl ?_ -- t25
  refine WL.y (Yl.field fo81_0 rfl) rfl ?_ -- t26
  refine WL.y (Yl.load on22 rfl (by repeat (first | exact Take1.head | apply Take1.tail)) (by rfl)) rfl ?_ -- t27
  refine WL.y (Yl.len un22 rfl) rfl ?_ -- t28
  refine WL.y (Yl.sub rfl rfl (IntWalk.i64_in _ (by omega))) rfl ?_ -- t29
  refine WL.say (t := 29) (v' := .int .i64 ((xs.length - (xs.filter fun x => !p x).length : Nat) : Int)) rfl (by (refine congrArg _ ?_; omega)) ?_
  refine WL.y (Yl.assign rfl) rfl ?_ -- t4
  refine WL.nil ?_
  refine WC.ret ?_
  repeat (first | (with_reducible refine peelT ?_) | (with_reducible refine peelB ?_) | (with_reducible refine peelTX ?_) | (with_reducible refine peelBX ?_) | (with_reducible refine peelBN ?_) | (with_reducible refine peelBO rfl ?_))
  exact ret1 (.inr rfl) Try.results12 rfl fun w' h => ⟨(a20, c20), trivial, rfl, h.sub (by repeat (first | exact TakeL.nil | (apply TakeL.cons; · repeat (first | exact Take1.head | apply Take1.tail))))⟩

def ysU (xs : List Int) : List (Array Value) := xs.map fun x => #[Value.int .u32 x]
theorem ysU_len (xs : List Int) : (ysU xs).length = xs.length := List.length_map _
theorem ysU_get {xs : List Int} {i : Nat} {x : Int} (h : xs[i]? = some x) : (ysU xs)[i]? = some #[Value.int .u32 x] := by simp [ysU, h]
theorem ysU_at {xs : List Int} {i : Nat} {y : Array Value} (h : (ysU xs)[i]? = some y) : ∃ x, xs[i]? = some x ∧ y = #[Value.int .u32 x] := by
  simp [ysU] at h
  obtain ⟨x, h1, h2⟩ := h
  exact ⟨x, h1, h2.symm⟩
theorem ysU_size {xs : List Int} : ∀ y ∈ ysU xs, y.size = 1 := by
  intro y hy
  obtain ⟨x, _, rfl⟩ := List.mem_map.1 hy
  rfl
def itAU (b1 bb : Nat) (most : Int) (v : Value) (xs : List Int) : List Res := [roR (blkR b1 25 [.pointer (some ⟨bb, 0, none⟩)]), roR (blkR bb 81 [v, .int .i64 most]), rdR v 1 xs.length (vcs (Value.int .u32) xs)]

theorem all1U_iter (b1 bb : Nat) (most : Int) (v : Value) (xs : List Int) (hl : xs.length ≤ 1000000) (w : World) (hA : OK w (fpL (itAU b1 bb most v xs)) (itAU b1 bb most v xs) w) :
    Iter Try.prog 39 ([.pointer (some ⟨b1, 0, none⟩)] : List Value).toArray (fpL (itAU b1 bb most v xs)).rd (ysU xs) w := by
  unfold itAU at hA ⊢
  obtain ⟨al, cl, rfl, hcl, hml⟩ := (hA.get (.tail (.tail .head)) : Rd _ _ _ _ _).form
  have hwr : ∀ r ∈ [roR (blkR b1 25 [.pointer (some ⟨bb, 0, none⟩)]), roR (blkR bb 81 [.slice al xs.length cl, .int .i64 most]), rdR (.slice al xs.length cl) 1 xs.length (vcs (Value.int .u32) xs)], ∀ k, ¬ r.wr k := by
    intro r hr k hk
    simp at hr
    rcases hr with rfl | rfl | rfl <;> exact hk
  have hln := ysU_len xs
  refine iter_of Try.func39 rfl Try.ntmps39 rfl hA hwr ?_
  intro l W g gx T0 hy
  refine WC.seq ?_
  refine WC.seq ?_
  refine WC.region ?_
  refine WL.y (Yl.loadRo on25 rfl (by repeat (first | exact Take1.head | apply Take1.tail)) (by rfl)) rfl ?_
  refine WL.y (Yl.nilEq un25 rfl rfl) rfl ?_ -- t6
  refine WL.know (t := 6) (b' := false) rfl (by first | rfl | (simp; done) | (simp; omega)) ?_
  refine WL.nil ?_
  refine WC.condF rfl (by first | rfl | (simp; done) | (simp; omega)) ?_
  refine WC.skip ?_
  refine WC.seq ?_
  refine WC.region ?_
  refine WL.y (Yl.loadRo on25 rfl (by repeat (first | exact Take1.head | apply Take1.tail)) (by rfl)) rfl ?_
  refine WL.y (Yl.nilCheck rfl) rfl ?_ -- t8
  refine WL.y (Yl.field fo81_0 rfl) rfl ?_ -- t9
  refine WL.y (Yl.loadRo on22 rfl (by repeat (first | exact Take1.head | apply Take1.tail)) (by rfl)) rfl ?_
  refine WL.y (Yl.len un22 rfl) rfl ?_ -- t11
  refine WL.y (Yl.move rfl) rfl ?_ -- t12
  refine WL.nil ?_
  refine WC.block ?_
  refine WC.loop (α := Nat × (Nat → Prop)) (fun x => [(0, .func (.yield l) #[] #[]), (10, .slice al xs.length cl), (11, .int .i64 (xs.length : Int)), (12, .int .i64 (x.1 : Int))]) (fun x => [gstR g x.1 x.2, rdR (.slice al xs.length cl) 1 xs.length (vcs (Value.int .u32) xs)]) (fun x => x.1 ≤ xs.length) (fun x => xs.length - x.1) (0, T0) (Nat.zero_le _) ⟨(by repeat (first | exact Sub.nil | refine Sub.cons rfl ?_)), _, (by repeat (first | exact TakeL.nil | (apply TakeL.cons; · repeat (first | exact Take1.head | apply Take1.tail))))⟩ ?_
  rintro ⟨i, T⟩ hi
  dsimp only at hi ⊢
  refine WC.seq ?_
  refine WC.region ?_
  refine WL.y (Yl.lss rfl rfl) rfl ?_ -- t13
  refine WL.nil ?_
  refine WC.seq ?_
  refine WC.condD rfl (fun g13 => ?_) (fun g13 => ?_)
  · refine WC.skip ?_
    refine WC.seq ?_
    refine WC.block ?_
    refine WC.seq ?_
    refine WC.region ?_
    obtain ⟨x, hx0⟩ : ∃ x, xs[i]? = some x := ⟨_, List.getElem?_eq_getElem (by omega)⟩
    refine WL.y (Yl.index un22 sz23 rfl rfl (Reads.of RdOf.rd' (by repeat (first | exact Take1.head | apply Take1.tail))) rfl (by omega)) rfl ?_ -- t14
    refine WL.y (Yl.loadV (j := i) (u := x) vtU (fun _ _ => trivial) rfl (Reads.of RdOf.rd' (by repeat (first | exact Take1.head | apply Take1.tail))) rfl hx0) rfl ?_
    refine WL.y (Yl.assign rfl) rfl ?_ -- t4
    refine WL.nil ?_
    refine WC.seq ?_
    refine WC.region ?_
    refine WL.y (Yl.move rfl) rfl ?_ -- t16
    refine WL.y (Yl.move rfl) rfl ?_ -- t17
    refine WL.yield (xs := [.tmp 17]) (i := i) hy rfl rfl (ysU_get hx0) (by repeat (first | exact Take1.head | apply Take1.tail)) rfl ?_
    intro b18 T'
    refine WL.y (Yl.not rfl) rfl ?_ -- t19
    refine WL.nil ?_
    refine WC.cond rfl (fun g19 => ?_) (fun g19 => ?_)
    · refine WC.ret ?_
      repeat (first | (with_reducible refine peelT ?_) | (with_reducible refine peelB ?_) | (with_reducible refine peelTX ?_) | (with_reducible refine peelBX ?_) | (with_reducible refine peelBN ?_) | (with_reducible refine peelBO rfl ?_))
      have hb : b18 = false := by simpa using g19
      subst hb
      simp only [Bool.false_eq_true, if_false]
      exact itStop (i := i) (.inr rfl) Try.results39 (by repeat (first | exact Take1.head | apply Take1.tail)) (by rw [hln]; omega)
    · refine WC.skip ?_
      refine WC.region ?_
      refine WL.y (Yl.add rfl rfl (IntWalk.i64_in _ (by omega))) rfl ?_ -- t20
      refine WL.y (Yl.move rfl) rfl ?_ -- t12
      refine WL.nil ?_
      have hb : b18 = true := by simpa using g19
      subst hb
      simp only [if_true]
      exact ⟨rfl, (i + 1, T'), by dsimp only; omega, by dsimp only; omega, (by repeat (first | exact Sub.nil | refine Sub.cons rfl ?_)), _, (by repeat (first | exact TakeL.nil | (apply TakeL.cons; · repeat (first | exact Take1.head | apply Take1.tail))))⟩
  · refine WC.exit ?_
    repeat (first | (with_reducible refine peelT ?_) | (with_reducible refine peelB ?_) | (with_reducible refine peelTX ?_) | (with_reducible refine peelBX ?_) | (with_reducible refine peelBN ?_) | (with_reducible refine peelBO rfl ?_))
    have hx : i = (ysU xs).length := by rw [hln]; omega
    rw [← hx]
    exact itEnd (.inl rfl) Try.results39 (by repeat (first | exact Take1.head | apply Take1.tail))

theorem allU_any (bb : Nat) (most : Int) (ao : Option Addr) (cap : Nat) (xs : List Int) (hl : xs.length ≤ 1000000) (w : World)
    (hw : OK w (fpL [blkR bb 81 [.slice ao xs.length cap, .int .i64 most], ownR (.slice ao xs.length cap) 23 1 xs.length (vcs (Value.int .u32) xs)]) [blkR bb 81 [.slice ao xs.length cap, .int .i64 most], ownR (.slice ao xs.length cap) 23 1 xs.length (vcs (Value.int .u32) xs)] w) :
    Fn Try.prog 16 [.pointer (some ⟨bb, 0, none⟩)] [blkR bb 81 [.slice ao xs.length cap, .int .i64 most], ownR (.slice ao xs.length cap) 23 1 xs.length (vcs (Value.int .u32) xs)] w (fun _ : Nat × (Nat → Prop) => True) (fun y => .func (.func 39) #[] #[.pointer (some ⟨y.1, 0, none⟩)]) (fun y => [itR Try.prog 39 [.pointer (some ⟨y.1, 0, none⟩)] y.2 (ysU xs)]) := by
  refine enterF Try.func16 rfl Try.ntmps16 rfl hw ?_
  refine WC.seq ?_
  refine WC.region ?_
  refine WL.to (To.box (cs := [.pointer (some ⟨bb, 0, none⟩)]) rfl rfl) rfl ?_ -- t1
  intro b1
  refine WL.y (Yl.assign rfl) rfl ?_ -- t2
  refine WL.nil ?_
  refine WC.seq ?_
  refine WC.region ?_
  refine WL.y (Yl.makeFunc (xs := []) (ys := [.tmp 1]) rfl rfl) rfl ?_ -- t3
  refine WL.y (Yl.assign rfl) rfl ?_ -- t2
  refine WL.nil ?_
  refine WC.ret ?_
  repeat (first | (with_reducible refine peelT ?_) | (with_reducible refine peelB ?_) | (with_reducible refine peelTX ?_) | (with_reducible refine peelBX ?_) | (with_reducible refine peelBN ?_) | (with_reducible refine peelBO rfl ?_))
  refine ret1 (.inr rfl) Try.results16 rfl fun w' hh => ⟨(b1, (fpL (itAU b1 bb most (.slice ao xs.length cap) xs)).rd), trivial, rfl, ?_⟩
  have hr := hh.readOnly (v := .slice ao xs.length cap) (e := 23) (by repeat (first | exact Take1.head | apply Take1.tail))
  have hA : OK w _ ([blkR b1 25 [.pointer (some ⟨bb, 0, none⟩)], blkR bb 81 [.slice ao xs.length cap, .int .i64 most], rdR (.slice ao xs.length cap) 1 xs.length (vcs (Value.int .u32) xs)] ++ []) w' := hr.sub (by repeat (first | exact TakeL.nil | (apply TakeL.cons; · repeat (first | exact Take1.head | apply Take1.tail))))
  exact hA.toIter (all1U_iter b1 bb most _ xs hl w' hA.freeze.here) (fun k hk => rd_freeze (A := [blkR b1 25 [.pointer (some ⟨bb, 0, none⟩)], blkR bb 81 [.slice ao xs.length cap, .int .i64 most], rdR (.slice ao xs.length cap) 1 xs.length (vcs (Value.int .u32) xs)]) hk)

theorem areU_any (gf : FuncId) (lb : List Value) (own : Nat → Prop) (eg : ∀ args w, (callFunc gf args).run Try.prog w = .ok (.enter gf args) w) (xs : List Int) (v : Value) (left : Int) (hleft : -9223372036854775808 ≤ left ∧ left ≤ 9223372036854775807) (hl : xs.length ≤ 1000000) (w : World)
    (hw : OK w (fpL [itR Try.prog gf lb own (ysU xs), rdR v 1 xs.length (vcs (Value.int .u32) xs)]) [itR Try.prog gf lb own (ysU xs), rdR v 1 xs.length (vcs (Value.int .u32) xs)] w) :
    Fn Try.prog 15 [.func (.func gf) #[] lb.toArray, v, .int .i64 left] [itR Try.prog gf lb own (ysU xs), rdR v 1 xs.length (vcs (Value.int .u32) xs)] w (fun _ : Unit => True) (fun _ => .bool true) (fun _ => []) := by
  obtain ⟨al, cl, rfl, hcl, hml⟩ := (hw.get (.tail .head) : Rd _ _ _ _ _).form
  have hl1 := hleft.1
  have hl2 := hleft.2
  refine enterM Try.func15 rfl Try.ntmps15 rfl hw ?_
  refine WC.seq ?_
  refine WC.region ?_
  refine WL.to (To.box (cs := [.slice al xs.length cl]) rfl rfl) rfl ?_ -- t4
  intro b4
  refine WL.to (To.box (cs := [.int .i64 left]) rfl rfl) rfl ?_ -- t5
  intro b5
  refine WL.to (To.alloc zr4 rfl) rfl ?_ -- t6
  intro b6
  refine WL.nil ?_
  refine WC.seq ?_
  refine WC.region ?_
  refine WL.to (To.alloc zr3 rfl) rfl ?_ -- t7
  intro b7
  refine WL.sto (Sto.one sz3 rfl rfl (by repeat (first | exact Take1.head | apply Take1.tail)) rfl (by rfl) (by rfl)) (fun _ h => nomatch h) ?_ -- st 1
  refine WL.nil ?_
  refine WC.seq ?_
  refine WC.seq ?_
  refine WC.region ?_
  refine WL.y (Yl.move rfl) rfl ?_ -- t9
  refine WL.nil ?_
  refine WC.block ?_
  refine WC.range (α := Unit) (xs := ysU xs) (fun i _ => [blkR b7 3 [.int .i64 ((i : Nat) : Int)], blkR b4 22 [.slice al xs.length cl], rdR (.slice al xs.length cl) 1 xs.length (vcs (Value.int .u32) xs), blkR b5 3 [.int .i64 left], blkR b6 4 [.bool false]]) (fun i _ => i = 0 ∨ (i : Int) < left) () rfl eg ysU_size rfl (by repeat (first | exact Take1.head | apply Take1.tail)) (.inl rfl) (by repeat (first | exact TakeL.nil | (apply TakeL.cons; · repeat (first | exact Take1.head | apply Take1.tail)))) ?_ ?_
  · intro l i x _ hx hs W
    obtain ⟨x, hx0, rfl⟩ := ysU_at hx
    have hi := (List.getElem?_eq_some_iff.1 hx0).1
    show WC _ _ _ ((10, .int .u32 x) :: _) _ _
    refine WC.region ?_
    refine WL.y (Yl.assign rfl) rfl ?_ -- t8
    refine WL.nil ?_
    repeat (first | (with_reducible refine peelT ?_) | (with_reducible refine peelB ?_) | (with_reducible refine peelTX ?_) | (with_reducible refine peelBX ?_) | (with_reducible refine peelBN ?_) | (with_reducible refine peelBO rfl ?_))
    refine fun W2 => ?_
    refine WC.block ?_
    refine WC.seq ?_
    refine WC.seq ?_
    refine WC.region ?_
    refine WL.y (Yl.load on3 rfl (by repeat (first | exact Take1.head | apply Take1.tail)) (by rfl)) rfl ?_ -- t11
    refine WL.y (Yl.load on22 rfl (by repeat (first | exact Take1.head | apply Take1.tail)) (by rfl)) rfl ?_ -- t12
    refine WL.y (Yl.len un22 rfl) rfl ?_ -- t13
    refine WL.y (Yl.geq rfl rfl) rfl ?_ -- t14
    refine WL.know (t := 14) (b' := false) rfl (decide_eq_false (by omega)) ?_
    refine WL.y (Yl.move rfl) rfl ?_ -- t15
    refine WL.on rfl rfl ?_
    refine WL.y (Yl.move rfl) rfl ?_ -- t16
    refine WL.on rfl rfl ?_
    refine WL.y (Yl.load on22 rfl (by repeat (first | exact Take1.head | apply Take1.tail)) (by rfl)) rfl ?_ -- t17
    refine WL.on rfl rfl ?_
    refine WL.y (Yl.load on3 rfl (by repeat (first | exact Take1.head | apply Take1.tail)) (by rfl)) rfl ?_ -- t18
    refine WL.on rfl rfl ?_
    refine WL.y (Yl.index un22 sz23 rfl rfl (Reads.of RdOf.rd' (by repeat (first | exact Take1.head | apply Take1.tail))) rfl (by omega)) rfl ?_ -- t19
    refine WL.on rfl rfl ?_
    refine WL.y (Yl.loadV (j := i) (u := x) vtU (fun _ _ => trivial) rfl (Reads.of RdOf.rd' (by repeat (first | exact Take1.head | apply Take1.tail))) rfl hx0) rfl ?_
    refine WL.on rfl rfl ?_
    refine WL.y (Yl.neq rfl rfl) rfl ?_ -- t21
    refine WL.y (Yl.pickF rfl rfl) rfl ?_ -- t22
    refine WL.know (t := 22) (b' := false) rfl (by simp) ?_
    refine WL.nil ?_
    refine WC.condF rfl (by first | rfl | (simp; done) | (simp; omega)) ?_
    refine WC.skip ?_
    refine WC.seq ?_
    refine WC.region ?_
    refine WL.y (Yl.load on3 rfl (by repeat (first | exact Take1.head | apply Take1.tail)) (by rfl)) rfl ?_ -- t23
    refine WL.y (Yl.add rfl rfl (IntWalk.i64_in _ (by omega))) rfl ?_ -- t24
    refine WL.sto (Sto.one sz3 rfl rfl (by repeat (first | exact Take1.head | apply Take1.tail)) rfl (by rfl) (by rfl)) (fun _ h => nomatch h) ?_ -- st 3
    refine WL.nil ?_
    refine WC.seq ?_
    refine WC.region ?_
    refine WL.y (Yl.load on3 rfl (by repeat (first | exact Take1.head | apply Take1.tail)) (by rfl)) rfl ?_ -- t25
    refine WL.y (Yl.load on3 rfl (by repeat (first | exact Take1.head | apply Take1.tail)) (by rfl)) rfl ?_ -- t26
    refine WL.y (Yl.geq rfl rfl) rfl ?_ -- t27
    refine WL.nil ?_
    refine WC.condD rfl (fun g27 => ?_) (fun g27 => ?_)
    · refine WC.exit ?_
      repeat (first | (with_reducible refine peelT ?_) | (with_reducible refine peelB ?_) | (with_reducible refine peelTX ?_) | (with_reducible refine peelBX ?_) | (with_reducible refine peelBN ?_) | (with_reducible refine peelBO rfl ?_))
      refine ⟨[blkR b7 3 [.int .i64 ((i : Int) + 1)], blkR b4 22 [.slice al xs.length cl], blkR b5 3 [.int .i64 left], blkR b6 4 [.bool false]], _, (by repeat (first | exact TakeL.nil | (apply TakeL.cons; · repeat (first | exact Take1.head | apply Take1.tail)))), fun D => ?_⟩
      dsimp only [List.cons_append, List.nil_append]
      refine WC.seq ?_
      refine WC.region ?_
      refine WL.y (Yl.load on3 rfl (by repeat (first | exact Take1.head | apply Take1.tail)) (by rfl)) rfl ?_ -- t28
      refine WL.y (Yl.load on22 rfl (by repeat (first | exact Take1.head | apply Take1.tail)) (by rfl)) rfl ?_ -- t29
      refine WL.y (Yl.len un22 rfl) rfl ?_ -- t30
      refine WL.y (Yl.load on3 rfl (by repeat (first | exact Take1.head | apply Take1.tail)) (by rfl)) rfl ?_ -- t31
      refine WL.y (Yl.max2 rfl rfl) rfl ?_ -- t32
      refine WL.y (Yl.min2 rfl rfl) rfl ?_ -- t33
      refine WL.y (Yl.eql rfl rfl) rfl ?_ -- t34
      refine WL.know (t := 34) (b' := true) rfl (by apply decide_eq_true; (repeat' split) <;> omega) ?_
      refine WL.sto (Sto.one sz4 rfl rfl (by repeat (first | exact Take1.head | apply Take1.tail)) rfl (by rfl) (by rfl)) (fun _ h => nomatch h) ?_ -- st 4
      refine WL.nil ?_
      refine WC.ret ?_
      repeat (first | (with_reducible refine peelT ?_) | (with_reducible refine peelB ?_) | (with_reducible refine peelTX ?_) | (with_reducible refine peelBX ?_) | (with_reducible refine peelBN ?_) | (with_reducible refine peelBO rfl ?_))
      refine retM.of (.cons (by repeat (first | exact Take1.head | apply Take1.tail)) .nil) ?_
      exact retV1 (.inr rfl) Try.results15 on4 rfl (by repeat (first | exact Take1.head | apply Take1.tail)) fun w' h => ⟨(), trivial, rfl, h.sub (by repeat (first | exact TakeL.nil | (apply TakeL.cons; · repeat (first | exact Take1.head | apply Take1.tail))))⟩
    · refine WC.skip ?_
      repeat (first | (with_reducible refine peelT ?_) | (with_reducible refine peelB ?_) | (with_reducible refine peelTX ?_) | (with_reducible refine peelBX ?_) | (with_reducible refine peelBN ?_) | (with_reducible refine peelBO rfl ?_))
      exact ⟨[blkR b7 3 [.int .i64 ((i : Int) + 1)], blkR b4 22 [.slice al xs.length cl], rdR (.slice al xs.length cl) 1 xs.length (vcs (Value.int .u32) xs), blkR b5 3 [.int .i64 left], blkR b6 4 [.bool false]], _, (by repeat (first | exact TakeL.nil | (apply TakeL.cons; · repeat (first | exact Take1.head | apply Take1.tail)))), (), .inr (by push_cast; omega), rfl⟩
  · rintro _ D hs
    rw [ysU_len] at hs ⊢
    dsimp only [List.cons_append, List.nil_append]
    refine WC.seq ?_
    refine WC.region ?_
    refine WL.y (Yl.load on3 rfl (by repeat (first | exact Take1.head | apply Take1.tail)) (by rfl)) rfl ?_ -- t28
    refine WL.y (Yl.load on22 rfl (by repeat (first | exact Take1.head | apply Take1.tail)) (by rfl)) rfl ?_ -- t29
    refine WL.y (Yl.len un22 rfl) rfl ?_ -- t30
    refine WL.y (Yl.load on3 rfl (by repeat (first | exact Take1.head | apply Take1.tail)) (by rfl)) rfl ?_ -- t31
    refine WL.y (Yl.max2 rfl rfl) rfl ?_ -- t32
    refine WL.y (Yl.min2 rfl rfl) rfl ?_ -- t33
    refine WL.y (Yl.eql rfl rfl) rfl ?_ -- t34
    refine WL.know (t := 34) (b' := true) rfl (by apply decide_eq_true; (repeat' split) <;> omega) ?_
    refine WL.sto (Sto.one sz4 rfl rfl (by repeat (first | exact Take1.head | apply Take1.tail)) rfl (by rfl) (by rfl)) (fun _ h => nomatch h) ?_ -- st 4
    refine WL.nil ?_
    refine WC.ret ?_
    repeat (first | (with_reducible refine peelT ?_) | (with_reducible refine peelB ?_) | (with_reducible refine peelTX ?_) | (with_reducible refine peelBX ?_) | (with_reducible refine peelBN ?_) | (with_reducible refine peelBO rfl ?_))
    refine retM.of (.cons (by repeat (first | exact Take1.head | apply Take1.tail)) .nil) ?_
    exact retV1 (.inr rfl) Try.results15 on4 rfl (by repeat (first | exact Take1.head | apply Take1.tail)) fun w' h => ⟨(), trivial, rfl, h.sub (by repeat (first | exact TakeL.nil | (apply TakeL.cons; · repeat (first | exact Take1.head | apply Take1.tail))))⟩
end Go.Proofs.Ytpjgmiemamcdhaa
