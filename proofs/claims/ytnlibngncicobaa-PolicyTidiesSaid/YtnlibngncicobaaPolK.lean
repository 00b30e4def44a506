/- Policies: rules taken of bytes, many; Load: the walks. -/
import Derived.Test.YtnlibngncicobaaPolJ
namespace Go.Proofs.Ytnlibngncicobaa
open Go Go.RowKit
def tuN (B : List Int) (W : Bool) : Nat := if mnW B W 64 then 0 else (val (tkR 2 B W)).toNat
def tuS (B : List Int) (W : Bool) (X : Bool) : List Ru × List Int × Bool × Bool := tlr (tuN B W) (tkB 2 B W) (mnW B W 64) X
def tuL (B : List Int) (W : Bool) (X : Bool) : List Ru := if (tuS B W X).2.2.1 then [] else (tuS B W X).1
theorem UOk.app {xs ys : List Ru} (h : UOk xs) (k : UOk ys) : UOk (xs ++ ys) := fun r hr => (List.mem_append.1 hr).elim (h r) (k r)
section
variable (b : Nat) (ao : Option Addr) (cap : Nat) (B : List Int) (W : Bool) (r : Res) (hr : RdOf r (.slice ao B.length cap) 1 B.length (ints .u8 B)) (hc : B.length ≤ cap) (hB : Bytes B) (bx : Nat) (X : Bool) (w : World) (hw : OK w (fpL [inR b (.slice ao B.length cap) W, r, blkR bx 4 [.bool X]]) [inR b (.slice ao B.length cap) W, r, blkR bx 4 [.bool X]] w)
include hr hc hB hw
set_option maxRecDepth 100000 in
theorem tlu_any : Fn Try.prog 44 [.pointer (some ⟨b, 0, none⟩), .int .i64 64, .func (.func 45) #[] #[.pointer (some ⟨bx, 0, none⟩)]] [inR b (.slice ao B.length cap) W, r, blkR bx 4 [.bool X]] w
    (fun _ : (Option Addr × Nat) × Option Addr × Nat => UOk (tuL B W X) ∧ (tuL B W X).length ≤ 64)
    (fun x => .slice x.1.1 (tuL B W X).length x.1.2)
    (fun x => [inR b (.slice x.2.1 (tuS B W X).2.1.length x.2.2) (tuS B W X).2.2.1, blkR bx 4 [.bool (tuS B W X).2.2.2], ownR (.slice x.1.1 (tuL B W X).length x.1.2) 24 5 (tuL B W X).length (vcs ruV (tuL B W X))]) := by
  have hv2 := val2 hB W
  unfold tuL
  obtain ⟨T, hT⟩ : ∃ T, tuS B W X = T := ⟨_, rfl⟩
  rw [hT]
  unfold tuS at hT
  have hk1 := hB.tkB 2 W
  refine enterF Try.func44 rfl Try.ntmps44 rfl hw ?_
  refine WC.seq ?_
  refine WC.region ?_
  refine WL.y (Yl.assign rfl) rfl ?_
  refine WL.nil ?_
  refine WC.seq ?_
  refine WC.seq ?_
  refine WC.region ?_
  refine WL.y (Yl.move rfl) rfl ?_
  refine WL.y (Yl.nilNe un91 rfl rfl) rfl ?_
  refine WL.know (t := 10) (b' := true) rfl (by first | rfl | (simp; done) | (simp; omega)) ?_
  refine WL.y (Yl.move rfl) rfl ?_
  refine WL.on rfl rfl ?_
  refine WL.y (Yl.move rfl) rfl ?_
  refine WL.on rfl rfl ?_
  refine WL.y (Yl.eqlG rfl rfl (b := false) (fun w => by kernel_rfl)) rfl ?_
  refine WL.know (t := 13) (b' := false) rfl (by first | rfl | (simp; done) | (simp; omega)) ?_
  refine WL.y (Yl.pickT rfl rfl) rfl ?_
  refine WL.nil ?_
  refine WC.condF rfl (by first | rfl | (simp; done) | (simp; omega)) ?_
  refine WC.skip ?_
  refine WC.seq ?_
  refine WC.region ?_
  refine WL.y (Yl.assign rfl) rfl ?_
  refine WL.nil ?_
  refine WC.seq ?_
  refine WC.seq ?_
  refine WC.region ?_
  refine WL.y (Yl.move rfl) rfl ?_
  refine WL.y (Yl.move rfl) rfl ?_
  refine WL.callC (xs := [.tmp 18, .tmp 19]) (cap := []) rfl rfl en67 (by repeat (first | exact TakeL.nil | (apply TakeL.cons; · repeat (first | exact Take1.head | apply Take1.tail)))) (fun w hw => inMany_any b ao cap B W 64 r hr hc hB w hw.left.here) rfl ?_
  rintro ⟨a1, c1⟩ ⟨r1, hc1⟩
  dsimp only at r1 hc1 ⊢
  obtain ⟨B1, hB1⟩ : ∃ B1, tkB 2 B W = B1 := ⟨_, rfl⟩
  obtain ⟨W1, hW1⟩ : ∃ W1, mnW B W 64 = W1 := ⟨_, rfl⟩
  rw [hB1, hW1] at hT
  rw [hB1] at r1 hc1 hk1
  rw [hB1, hW1]
  obtain ⟨m, hm⟩ : ∃ m : Int, (if W1 = true then -1 else val (tkR 2 B W)) = m := ⟨_, rfl⟩
  rw [hm]
  have hmn : tuN B W = m.toNat := by
    unfold tuN; rw [hW1, ← hm]; cases W1 <;> rfl
  rw [hmn] at hT
  have hm2 : -1 ≤ m ∧ m ≤ 64 := by
    rw [← hm]
    split
    · omega
    · rename_i hh
      have h2 : ¬ (64 : Int) < val (tkR 2 B W) := by
        intro h3
        apply hh
        rw [← hW1]
        unfold mnW
        simp [h3]
      omega
  refine WL.y (Yl.assign rfl) rfl ?_
  refine WL.nil ?_
  refine WC.block ?_
  refine WC.view (fun w h => h.addNil 24 5) ?_
  refine WC.loop (α := Int × List Ru × List Int × Bool × Bool × (Option Addr × Nat) × (Option Addr × Nat)) (fun p => [(0, .pointer (some ⟨b, 0, none⟩)), (2, .func (.func 45) #[] #[.pointer (some ⟨bx, 0, none⟩)]), (6, .slice none 0 0), (7, .slice p.2.2.2.2.2.2.1 p.2.1.length p.2.2.2.2.2.2.2), (8, .int .i64 p.1)]) (fun p => [ownR (.slice p.2.2.2.2.2.2.1 p.2.1.length p.2.2.2.2.2.2.2) 24 5 p.2.1.length (vcs ruV p.2.1), inR b (.slice p.2.2.2.2.2.1.1 p.2.2.1.length p.2.2.2.2.2.1.2) p.2.2.2.1, r, blkR bx 4 [.bool p.2.2.2.2.1]]) (fun p => T = (p.2.1 ++ (tlr p.1.toNat p.2.2.1 p.2.2.2.1 p.2.2.2.2.1).1, (tlr p.1.toNat p.2.2.1 p.2.2.2.1 p.2.2.2.2.1).2) ∧ RdOf r (.slice p.2.2.2.2.2.1.1 p.2.2.1.length p.2.2.2.2.2.1.2) 1 p.2.2.1.length (ints .u8 p.2.2.1) ∧ p.2.2.1.length ≤ p.2.2.2.2.2.1.2 ∧ Bytes p.2.2.1 ∧ -1 ≤ p.1 ∧ (p.2.1.length : Int) + p.1 ≤ 64 ∧ UOk p.2.1 ∧ p.2.1.length ≤ 64) (fun p => p.1.toNat) (m, [], B1, W1, X, (a1, c1), (none, 0)) ⟨by rw [← hT]; rfl, r1, hc1, hk1, hm2.1, by simp; omega, (fun _ h => nomatch h), by simp⟩ ⟨(by repeat (first | exact Sub.nil | refine Sub.cons rfl ?_)), _, (by repeat (first | exact TakeL.nil | (apply TakeL.cons; · repeat (first | exact Take1.head | apply Take1.tail))))⟩ ?_
  clear hT hm hmn hm2 hW1 r1 hc1 hB1 hk1
  rintro ⟨m, out, B1, W1, X1, ⟨a1, c1⟩, ao2, c2⟩ ⟨hT, r1, hc1, hk1, hm1, hm2, ho, ho64⟩
  dsimp only at hT r1 hc1 hk1 hm1 hm2 ho ho64 ⊢
  refine WC.seq ?_
  refine WC.midK [(29, .bool (decide (0 < m) && !W1))] [ownR (.slice ao2 out.length c2) 24 5 out.length (vcs ruV out), inR b (.slice a1 B1.length c1) W1, r, blkR bx 4 [.bool X1]] ?_ ?_
  · refine WC.region ?_
    refine WL.y (Yl.move rfl) rfl ?_
    refine WL.y (Yl.gtr rfl rfl) rfl ?_
    refine WL.y (Yl.move rfl) rfl ?_
    refine WL.both (t := 23) rfl (fun g23 => ?_) (fun g23 => ?_)
    · refine WL.on rfl rfl ?_
      refine WL.y (Yl.move rfl) rfl ?_
      refine WL.on rfl rfl ?_
      refine WL.y (Yl.nilCheck rfl) rfl ?_
      refine WL.on rfl rfl ?_
      refine WL.y (Yl.field fo117_1 rfl) rfl ?_
      refine WL.on rfl rfl ?_
      refine WL.y (Yl.load on4 rfl (by repeat (first | exact Take1.head | apply Take1.tail)) (by rfl)) rfl ?_
      refine WL.on rfl rfl ?_
      refine WL.y (Yl.not rfl) rfl ?_
      refine WL.y (Yl.pickT rfl rfl) rfl ?_
      refine WL.say (t := 29) (v' := .bool (decide (0 < m) && !W1)) rfl (by (refine congrArg Value.bool ?_; simp [*])) ?_
      refine WL.nil ?_
      exact ⟨rfl, (by repeat (first | exact Sub.nil | refine Sub.cons rfl ?_)), (by repeat (first | exact Sub.nil | refine Sub.cons rfl ?_)), _, (by repeat (first | exact TakeL.nil | (apply TakeL.cons; · repeat (first | exact Take1.head | apply Take1.tail))))⟩
    · refine WL.off rfl rfl rfl rfl ?_
      refine WL.off rfl rfl rfl rfl ?_
      refine WL.off rfl rfl rfl rfl ?_
      refine WL.off rfl rfl rfl rfl ?_
      refine WL.off rfl rfl rfl rfl ?_
      refine WL.y (Yl.pickF rfl rfl) rfl ?_
      refine WL.say (t := 29) (v' := .bool (decide (0 < m) && !W1)) rfl (by (refine congrArg Value.bool ?_; simp [*])) ?_
      refine WL.nil ?_
      exact ⟨rfl, (by repeat (first | exact Sub.nil | refine Sub.cons rfl ?_)), (by repeat (first | exact Sub.nil | refine Sub.cons rfl ?_)), _, (by repeat (first | exact TakeL.nil | (apply TakeL.cons; · repeat (first | exact Take1.head | apply Take1.tail))))⟩
  · refine WC.cond rfl (fun g29 => ?_) (fun g29 => ?_)
    · refine WC.skip ?_
      refine WC.seq ?_
      refine WC.block ?_
      refine WC.region ?_
      refine WL.y (Yl.move rfl) rfl ?_
      refine WL.y (Yl.move rfl) rfl ?_
      refine WL.y (Yl.move rfl) rfl ?_
      have g := g29
      simp only [Bool.and_eq_true, decide_eq_true_eq, Bool.not_eq_true'] at g
      obtain ⟨gm, rfl⟩ := g
      refine WL.callC (f := .tmp 33) (xs := [.tmp 34]) (cap := [.pointer (some ⟨bx, 0, none⟩)]) rfl rfl en45 (by repeat (first | exact TakeL.nil | (apply TakeL.cons; · repeat (first | exact Take1.head | apply Take1.tail)))) (fun w hw => ld1_any b a1 c1 B1 false r r1 hc1 hk1 bx X1 w hw.left.here) rfl ?_
      rintro ⟨a3, c3⟩ ⟨r3, hc3⟩
      dsimp only at r3 hc3 ⊢
      obtain ⟨x, hx⟩ : ∃ x, cRu B1 false = x := ⟨_, rfl⟩
      have hxo : x.ok := by rw [← hx]; exact cRu_ok hk1 false
      have hk5 : Bytes (c5B B1 false) := ((((hk1.tkB 1 false).tkB 4 (c1W B1 false)).tkB 4 (c2W B1 false)).tkB 1 (c3W B1 false)).tkB 1 (c4W B1 false)
      rw [hx]
      refine WL.to (To.buildSlice (vs := [.agg x.cells.toArray]) un64 zs24 rfl rfl (by simp [Value.cells, Ru.cells]) (by decide) (by decide)) rfl ?_
      intro b36
      rw [flat1]
      refine WL.to (To.append sl64 rfl rfl (by repeat (first | exact Take1.head | apply Take1.tail)) (Reads.of (rdRu hxo) (by repeat (first | exact Take1.head | apply Take1.tail))) (Ru.ones x) (show out.length + 1 = (out ++ [x]).length by simp) (show vcs ruV out ++ x.cells = vcs ruV (out ++ [x]) by rw [vcs_app, vcs_one]; rfl) (by simp; unfold maxLen; omega) (by simp; omega)) rfl ?_
      rintro ⟨⟨ao37, c37⟩, hc37⟩
      dsimp only at hc37 ⊢
      refine WL.y (Yl.assign rfl) rfl ?_
      refine WL.nil ?_
      refine WC.region ?_
      refine WL.y (Yl.move rfl) rfl ?_
      refine WL.y (Yl.sub rfl rfl (IntWalk.i64_in _ (by omega))) rfl ?_
      refine WL.y (Yl.assign rfl) rfl ?_
      refine WL.nil ?_
      refine ⟨rfl, (m - 1, out ++ [x], c5B B1 false, c5W B1 false, X1 || cX B1 false, (a3, c3), (ao37, c37)), ⟨?_, r3, hc3, hk5, by dsimp only; omega, by simp; omega, ho.app (fun q hq => by rw [List.mem_singleton.1 hq]; exact hxo), by simp; omega⟩, by dsimp only; omega, (by repeat (first | exact Sub.nil | refine Sub.cons rfl ?_)), _, (by repeat (first | exact TakeL.nil | (apply TakeL.cons; · repeat (first | exact Take1.head | apply Take1.tail))))⟩
      dsimp only
      rw [hT, show m.toNat = (m - 1).toNat + 1 by omega]
      simp [tlr, hx]
    · refine WC.exit ?_
      refine WC.seq ?_
      refine WC.seq ?_
      have hfin : T = (out, B1, W1, X1) := by
        rw [hT]
        cases W1 with
        | true => rw [tlr_wr]; simp
        | false =>
          have : ¬ 0 < m := by simpa using g29
          rw [show m.toNat = 0 by omega]
          simp [tlr]
      clear hT
      subst hfin
      refine WC.region ?_
      refine WL.y (Yl.move rfl) rfl ?_
      refine WL.y (Yl.nilEq un91 rfl rfl) rfl ?_
      refine WL.know (t := 39) (b' := false) rfl (by first | rfl | (simp; done) | (simp; omega)) ?_
      refine WL.y (Yl.move rfl) rfl ?_
      refine WL.on rfl rfl ?_
      refine WL.y (Yl.move rfl) rfl ?_
      refine WL.on rfl rfl ?_
      refine WL.y (Yl.nilCheck rfl) rfl ?_
      refine WL.on rfl rfl ?_
      refine WL.y (Yl.field fo117_1 rfl) rfl ?_
      refine WL.on rfl rfl ?_
      refine WL.y (Yl.load on4 rfl (by repeat (first | exact Take1.head | apply Take1.tail)) (by rfl)) rfl ?_
      refine WL.y (Yl.pickF rfl rfl) rfl ?_
      refine WL.nil ?_
      refine WC.cond rfl (fun g45 => ?_) (fun g45 => ?_)
      · refine WC.seq ?_
        refine WC.region ?_
        refine WL.y (Yl.assign rfl) rfl ?_
        refine WL.nil ?_
        refine WC.ret ?_
        repeat (first | (with_reducible refine peelT ?_) | (with_reducible refine peelB ?_) | (with_reducible refine peelTX ?_) | (with_reducible refine peelBX ?_) | (with_reducible refine peelBN ?_) | (with_reducible refine peelBO rfl ?_))
        have e : W1 = true := g45
        subst e
        exact ret1 (.inr rfl) Try.results44 rfl fun w' h => ⟨((none, 0), a1, c1), ⟨(fun _ h => nomatch h), Nat.zero_le _⟩, rfl, (h.addNil 24 5).sub (by repeat (first | exact TakeL.nil | (apply TakeL.cons; · repeat (first | exact Take1.head | apply Take1.tail))))⟩
      · refine WC.skip ?_
        refine WC.seq ?_
        refine WC.region ?_
        refine WL.y (Yl.move rfl) rfl ?_
        refine WL.y (Yl.assign rfl) rfl ?_
        refine WL.nil ?_
        refine WC.ret ?_
        repeat (first | (with_reducible refine peelT ?_) | (with_reducible refine peelB ?_) | (with_reducible refine peelTX ?_) | (with_reducible refine peelBX ?_) | (with_reducible refine peelBN ?_) | (with_reducible refine peelBO rfl ?_))
        have e : W1 = false := g45
        subst e
        exact ret1 (.inr rfl) Try.results44 rfl fun w' h => ⟨((ao2, c2), a1, c1), ⟨ho, ho64⟩, rfl, h.sub (by repeat (first | exact TakeL.nil | (apply TakeL.cons; · repeat (first | exact Take1.head | apply Take1.tail))))⟩
end
/-- What bytes are loaded to. -/
def ldF (bs : List Int) : Int := val (tkR 1 bs false)
set_option maxRecDepth 100000 in
theorem loadBad_any (xv : Value) (bs : List Int) (hB : Bytes bs) (hs : bs.length ≤ 1000000) (hd : telU (ldF bs) = false) (w : World) (hx : RdS w (fpL []) xv 1 bs.length (ints .u8 bs)) (hw : OK w (fpL []) [] w) :
    Fn Try.prog 23 [xv] [] w (fun _ : Unit => True) (fun _ => .tuple #[.pointer none, .int .i64 9]) (fun _ => []) := by
  refine enterF Try.func23 rfl Try.ntmps23 rfl hw ?_
  refine WC.seq ?_
  refine WC.region ?_
  refine WL.y (Yl.assign rfl) rfl ?_
  refine WL.y (Yl.assign rfl) rfl ?_
  refine WL.nil ?_
  refine WC.seq ?_
  refine WC.region ?_
  refine WL.y (Yl.move rfl) rfl ?_
  refine WL.callC (xs := [.tmp 11]) (cap := []) rfl rfl en42 (by repeat (first | exact TakeL.nil | (apply TakeL.cons; · repeat (first | exact Take1.head | apply Take1.tail)))) (fun w hw => newIn_any xv bs (by omega) w (hw.srcS (A := []) hx) hw.left.here) rfl ?_
  rintro ⟨bi, ai, ci⟩ hci
  dsimp only [List.cons_append, List.nil_append] at hci ⊢
  refine WL.y (Yl.assign rfl) rfl ?_
  refine WL.nil ?_
  refine WC.seq ?_
  refine WC.region ?_
  refine WL.y (Yl.move rfl) rfl ?_
  refine WL.callC (xs := [.tmp 14]) (cap := []) rfl rfl en43 (by repeat (first | exact TakeL.nil | (apply TakeL.cons; · repeat (first | exact Take1.head | apply Take1.tail)))) (fun w hw => inU8_any bi ai ci bs false (ownR (.slice ai bs.length ci) 5 1 bs.length (ints .u8 bs)) RdOf.own hci hB w hw.left.here) rfl ?_
  rintro ⟨a1, k1⟩ ⟨r1, hc1⟩
  dsimp only [List.cons_append, List.nil_append] at r1 hc1 ⊢
  rw [show val (tkR 1 bs false) = ldF bs from rfl]
  refine WL.callC (xs := [.tmp 15]) (cap := []) rfl rfl en13 (by repeat (first | exact TakeL.nil | (apply TakeL.cons; · repeat (first | exact Take1.head | apply Take1.tail)))) (fun w hw => newBad_any (ldF bs) hd w hw.left.here) rfl ?_
  rintro ⟨⟩ -
  dsimp only [List.cons_append, List.nil_append]
  refine WL.y (Yl.move rfl) rfl ?_
  refine WL.y (Yl.extract rfl rfl) rfl ?_
  refine WL.y (Yl.extract rfl rfl) rfl ?_
  refine WL.y (Yl.assign rfl) rfl ?_
  refine WL.y (Yl.assign rfl) rfl ?_
  refine WL.nil ?_
  refine WC.seq ?_
  refine WC.region ?_
  refine WL.to (To.alloc (cs := [.bool false]) zr4 rfl) rfl ?_
  intro b7
  refine WL.sto (Sto.one sz4 rfl rfl (by repeat (first | exact Take1.head | apply Take1.tail)) rfl (by rfl) (by rfl)) (fun _ h => nomatch h) ?_
  refine WL.nil ?_
  refine WC.seq ?_
  refine WC.region ?_
  refine WL.y (Yl.move rfl) rfl ?_
  refine WL.y (Yl.makeFunc (xs := []) (ys := [.tmp 7]) rfl rfl) rfl ?_
  refine WL.callC (xs := [.tmp 19, _, .tmp 20]) (cap := []) rfl rfl en44 (by repeat (first | exact TakeL.nil | (apply TakeL.cons; · repeat (first | exact Take1.head | apply Take1.tail)))) (fun w hw => tlu_any bi a1 k1 (tkB 1 bs false) (tkW 1 bs false) (ownR (.slice ai bs.length ci) 5 1 bs.length (ints .u8 bs)) r1 hc1 (hB.tkB 1 false) b7 false w hw.left.here) rfl ?_
  rintro ⟨⟨a21, k21⟩, a2, k2⟩ ⟨hL, hl64⟩
  dsimp only [List.cons_append, List.nil_append] at hL hl64 ⊢
  refine WL.y (Yl.assign rfl) rfl ?_
  refine WL.nil ?_
  refine WC.seq ?_
  refine WC.seq ?_
  refine WC.region ?_
  refine WL.y (Yl.move rfl) rfl ?_
  refine WL.y (Yl.neq rfl rfl) rfl ?_
  refine WL.know (t := 23) (b' := true) rfl (by first | rfl | (simp; done) | (simp; omega)) ?_
  refine WL.y (Yl.move rfl) rfl ?_
  refine WL.off rfl rfl rfl rfl ?_
  refine WL.off rfl rfl rfl rfl ?_
  refine WL.off rfl rfl rfl rfl ?_
  refine WL.y (Yl.pickT rfl rfl) rfl ?_
  refine WL.y (Yl.move rfl) rfl ?_
  refine WL.off rfl rfl rfl rfl ?_
  refine WL.y (Yl.pickT rfl rfl) rfl ?_
  refine WL.nil ?_
  refine WC.condT rfl (by first | rfl | (simp; done) | (simp; omega)) ?_
  refine WC.seq ?_
  refine WC.region ?_
  refine WL.y (Yl.assign rfl) rfl ?_
  refine WL.y (Yl.assign rfl) rfl ?_
  refine WL.nil ?_
  refine WC.ret ?_
  repeat (first | (with_reducible refine peelT ?_) | (with_reducible refine peelB ?_) | (with_reducible refine peelTX ?_) | (with_reducible refine peelBX ?_) | (with_reducible refine peelBN ?_) | (with_reducible refine peelBO rfl ?_))
  exact ret2 (.inr rfl) Try.results23 rfl rfl fun w' h => ⟨(), trivial, rfl, h.sub (by repeat (first | exact TakeL.nil | (apply TakeL.cons; · repeat (first | exact Take1.head | apply Take1.tail))))⟩
theorem newOk_any (d : Int) (rs : List Ru) (h : telU d = true) (hr : UOk rs) (hm : ∀ r ∈ rs, mayU r = true) (hl : rs.length ≤ 64) : ({ Po.new d with rl := rs } : Po).ok := by
  have h0 := Po.new_ok h
  exact ⟨h0.df, fun r h => ⟨hr r h, hm r h⟩, hl, h0.la, h0.lar, h0.no⟩
end Go.Proofs.Ytnlibngncicobaa
