/- Policies: rules taken of bytes, many; Load: the walks. -/
import Derived.Test.YtnlibngncicobaaPolJ
namespace Go.Proofs.Ytnlibngncicobaa
open Go Go.RowKit
def tuN (B : List Int) (W : Bool) : Nat := if mnW B W 64 then 0 else (val (tkR 2 B W)).toNat
def tuS (B : List Int) (W : Bool) (X : Bool) : List Ru × List Int × Bool × Bool := tlr (tuN B W) (tkB 2 B W) (mnW B W 64) X
def tuL (B : List Int) (W : Bool) (X : Bool) : List Ru := if (tuS B W X).2.2.1 then [] else (tuS B W X).1
theorem UOk.app {xs ys : List Ru} (h : UOk xs) (k : UOk ys) : UOk (xs ++ ys) := fun r hr => (List.mem_append.1 hr).elim (h r) (k r)
section
variable (b : Nat) (ao : Option Addr) (cap : Nat) (B : List Int) (W : Bool) (r : Res) (hr : RdOf r (.slice ao B.length cap) 1 B.length (ints .u8 B)) (hc : B.length ≤ cap) (hB : Bytes B) (bx : Nat) (X : Bool) (w : World) (hw : OK w (fpL [inR b (.slice ao B.length cap) W, r, blkR bx 4 [.bool X]]) [inR b (.slice ao B.length cap) W, r, blkR bx 4 [.bool X]] w)
include hr hc hB hw
set_option maxRecDepth 100000 in
theorem tlu_any : Fn Try.prog 44 [.pointer (some ⟨b, 0, none⟩), .int .i64 64, .func (.func 45) #[] #[.pointer (some ⟨bx, 0, none⟩)]] [inR b (.slice ao B.length cap) W, r, blkR bx 4 [.bool X]] w
    (fun _ : (Option Addr × Nat) × Option Addr × Nat => UOk (tuL B W X) ∧ (tuL B W X).length ≤ 64)
    (fun x => .slice x.1.1 (tuL B W X).length x.1.2)
    (fun x => [inR b (.slice x.2.1 (tuS B W X).2.1.length x.2.2) (tuS B W X).2.2.1, blkR bx 4 [.bool (tuS B W X).2.2.2], ownR (.slice x.1.1 (tuL B W X).length x.1.2) 24 5 (tuL B W X).length (vcs ruV (tuL B W X))]) := by
  have hv2 := val2 hB W
  unfold tuL
  obtain ⟨T, hT⟩ : ∃ T, tuS B W X = T := ⟨_, rfl⟩
  rw [hT]
  unfold tuS at hT
  have hk1 := hB.tkB 2 W
  refine enterF Try.func44 rfl Try.ntmps44 rfl hw ?_
  refine WC.seq ?_
  refine WC.region ?_
  refine WL.y (Yl.assign rfl) rfl ?_
  refine WL.nil ?_
  refine WC.seq ?_
  refine WC.seq ?_
  refine WC.region ?_
  refine WL.y (Yl.move rfl) rfl ?_
  refine WL.y (Yl.nilNe un91 rfl rfl) rfl ?_
  refine WL.know (t := 10) (b' := true) rfl (by first | rfl | (simp; done) | (simp; omega)) ?_
  refine WL.y (Yl.move rfl) rfl ?_
  refine WL.on rfl rfl ?_
  refine WL.y (Yl.move rfl) rfl ?_
  refine WL.on rfl rfl ?_
  refine WL.y (Yl.eqlG rfl rfl (b := false) (fun w => by kernel_rfl)) rfl ?_
  refine WL.know (t := 13) (b' := false) rfl (by first | rfl | (simp; done) | (simp; omega)) ?_
  refine WL.y (Yl.pickT rfl rfl) rfl ?_
  refine WL.nil ?_
  refine WC.condF rfl (by first | rfl | (simp; done) | (simp; omega)) ?_
  refine WC.skip ?_
  refine WC.seq ?_
  refine WC.region ?_
  refine WL.y (Yl.assign rfl) rfl ?_
  refine WL.nil ?_
  refine WC.seq ?_
  refine WC.seq ?_
  refine WC.region ?_
  refine WL.y (Yl.move rfl) rfl ?_
  refine WL.y (Yl.move rfl) rfl ?_
  refine WL.callC (xs := [.tmp 18, .tmp 19]) (cap := []) rfl rfl en67 (by repeat (first | exact TakeL.nil | (apply TakeL.cons; · repeat (first | exact Take1.head | apply Take1.tail)))) (fun w hw => inMany_any b ao cap B W 64 r hr hc hB w hw.left.here) rfl ?_
  rintro ⟨a1, c1⟩ ⟨r1, hc1⟩
  dsimp only at r1 hc1 ⊢
  obtain ⟨B1, hB1⟩ : ∃ B1, tkB 2 B W = B1 := ⟨_, rfl⟩
  obtain ⟨W1, hW1⟩ : ∃ W1, mnW B W 64 = W1 := ⟨_, rfl⟩
  rw [hB1, hW1] at hT
  rw [hB1] at r1 hc1 hk1
  rw [hB1, hW1]
  obtain ⟨m, hm⟩ : ∃ m : Int, (if W1 = true then -1 else val (tkR 2 B W)) = m := ⟨_, rfl⟩
  rw [hm]
  have hmn : tuN B W = m.toNat := by
    unfold tuN; rw [hW1, ← hm]; cases W1 <;> rfl
  rw [hmn] at hT
  have hm2 : -1 ≤ m ∧ m ≤ 64 := by
    rw [← hm]
    split
    · omega
    · rename_i hh
      have h2 : ¬ (64 : Int) < val (tkR 2 B W) := by
        intro h3
        apply hh
        rw [← hW1]
        unfold mnW
        simp [h3]
      omega
  refine WL.y (Yl.assign rfl) rfl ?_
  refine WL.nil ?_
  refine WC.block ?_
  refine WC.view (fun w h => h.addNil 24 5) ?_
  refine WC.loop (α := Int × List Ru × List Int × Bool × Bool × (Option Addr × Nat) × (Option Addr × Nat)) (fun p => [(0, .pointer (some ⟨b, 0, none⟩)), (2, .func (.func 45) #[] #[.pointer (some ⟨bx, 0, none⟩)]), (6, .slice none 0 0), (7, .slice p.2.2.2.2.2.2.1 p.2.1.length p.2.2.2.2.2.2.2), (8, .int .i64 p.1)]) (fun p => [ownR (.slice p.2.2.2.2.2.2.1 p.2.1.length p.2.2.2.2.2.2.2) 24 5 p.2.1.length (vcs ruV p.2.1), inR b (.slice p.2.2.2.2.2.1.1 p.2.2.1.length p.2.2.2.2.2.1.2) p.2.2.2.1, r, blkR bx 4 [.bool p.2.2.2.2.1]]) (fun p => T = (p.2.1 ++ (tlr p.1.toNat p.2.2.1 p.2.2.2.1 p.2.2.2.2.1).1, (tlr p.1.toNat p.2.2.1 p.2.2.2.1 p.2.2.2.2.1).2) ∧ RdOf r (.slice p.2.2.2.2.2.1.1 p.2.2.1.length p.2.2.2.2.2.1.2) 1 p.2.2.1.length (ints .u8 p.2.2.1) ∧ p.2.2.1.length ≤ p.2.2.2.2.2.1.2 ∧ Bytes p.2.2.1 ∧ -1 ≤ p.1 ∧ (p.2.1.length : Int) + p.1 ≤ 64 ∧ UOk p.2.1 ∧ p.2.1.length ≤ 64) (fun p => p.1.toNat) (m, [], B1, W1, X, (a1, c1), (none, 0)) ⟨by rw [← hT]; rfl, r1, hc1, hk1, hm2.1, by simp; omega, (fun _ h => nomatch h), by simp⟩ ⟨(by repeat (first | exact Sub.nil | refine Sub.cons rfl ?_)), _, (by repeat (first | exact TakeL.nil | (apply TakeL.cons; · repeat (first | exact Take1.head | apply Take1.tail))))⟩ ?_
  clear hT hm hmn hm2 hW1 r1 hc1 hB1 hk1
  rintro ⟨m, out, B1, W1, X1, ⟨a1, c1⟩, ao2, c2⟩ ⟨hT, r1, hc1, hk1, hm1, hm2, ho, ho64⟩
  dsimp only at hT r1 hc1 hk1 hm1 hm2 ho ho64 ⊢
  refine WC.seq ?_
  refine WC.midK [(29, .bool (decide (0 < m) && !W1))] [ownR (.slice ao2 out.length c2) 24 5 out.length (vcs ruV out), inR b (.slice a1 B1.length c1) W1, r, blkR bx 4 [.bool X1]] ?_ ?_
  · refine WC.region ?_
    refine WL.y (Yl.move rfl) rfl ?_
    refine WL.y (Yl.gtr rfl rfl) rfl ?_
    refine WL.y (Yl.move rfl) rfl ?_
    refine WL.both (t := 23) rfl (fun g23 => ?_) (fun g23 => ?_)
    · refine WL.on rfl rfl ?_
      refine WL.y (Yl.move rfl) rfl ?_
      refine WL.on rfl rfl ?_
      refine WL.y (Yl.nilCheck rfl) rfl ?_
      refine WL.on rfl rfl ?_
      refine WL.y (Yl.field fo117_1 rfl) rfl ?_
      refine WL.on rfl rfl ?_
      refine WL.y (Yl.load on4 rfl (by repeat (first | exact Take1.head | apply Take1.tail)) (by rfl)) rfl ?_
      refine WL.on rfl rfl ?_
      refine WL.y (Yl.not rfl) rfl ?_
      refine WL.y (Yl.pickT rfl rfl) rfl ?_
      refine WL.say (t := 29) (v' := .bool (decide (0 < m) && !W1)) rfl (by (refine congrArg Value.bool ?_; simp [*])) ?_
      refine WL.nil ?_
      exact ⟨rfl, (by repeat (first | exact Sub.nil | refine Sub.cons rfl ?_)), (by repeat (first | exact Sub.nil | refine Sub.cons rfl ?_)), _, (by repeat (first | exact TakeL.nil | (apply TakeL.cons; · repeat (first | exact Take1.head | apply Take1.tail))))⟩
    · refine WL.off rfl rfl rfl rfl ?_
      refine WL.off rfl rfl rfl rfl ?_
      refine WL.off rfl rfl rfl rfl ?_
      refine WL.off rfl rfl rfl rfl ?_
      refine WL.off rfl rfl rfl rfl ?_
      refine WL.y (Yl.pickF rfl rfl) rfl ?_
      refine WL.say (t := 29) (v' := .bool (decide (0 < m) && !W1)) rfl (by (refine congrArg Value.bool ?_; simp [*])) ?_
      refine WL.nil ?_
      exact ⟨rfl, (by repeat (first | exact Sub.nil | refine Sub.cons rfl ?_)), (by repeat (first | exact Sub.nil | refine Sub.cons rfl ?_)), _, (by repeat (first | exact TakeL.nil | (apply TakeL.cons; · repeat (first | exact Take1.head | apply Take1.tail))))⟩
  · refine WC.cond rfl (fun g29 => ?_) (fun g29 => ?_)
    · refine WC.skip ?_
      refine WC.seq ?_
      refine WC.block ?_
      refine WC.region ?_
      refine WL.y (Yl.move rfl) rfl ?_
      refine WL.y (Yl.move rfl) rfl ?_
      refine WL.y (Yl.move rfl) rfl ?_
      have g := g29
      simp only [Bool.and_eq_true, decide_eq_true_eq, Bool.not_eq_true'] at g
      obtain ⟨gm, rfl⟩ := g
      refine WL.callC (f := .tmp 33) (xs := [.tmp 34]) (cap := [.pointer (some ⟨bx, 0, none⟩)]) rfl rfl en45 (by repeat (first | exact TakeL.nil | (apply TakeL.cons; · repeat (first | exact Take1.head | apply Take1.tail)))) (fun w hw => ld1_any b a1 c1 B1 false r r1 hc1 hk1 bx X1 w hw.left.here) rfl ?_
      rintro ⟨a3, c3⟩ ⟨r3, hc3⟩
      dsimp only at r3 hc3 ⊢
      obtain ⟨x, hx⟩ : ∃ x, cRu B1 false = x := ⟨_, rfl⟩
      have hxo : x.ok := by rw [← hx]; exact cRu_ok hk1 false
      have hk5 : Bytes (c5B B1 false) := ((((hk1.tkB 1 false).tkB 4 (c1W B1 false)).tkB 4 (c2W B1 false)).tkB 1 (c3W B1 false)).tkB 1 (c4W B1 false)
      rw [hx]
      refine WL.to (To.buildSlice (vs := [.agg x.cells.toArray]) un64 zs24 rfl rfl (by simp [Value.cells, Ru.cells]) (by decide) (by decide)) rfl ?_
      intro b36
      rw [flat1]
      refine WL.to (To.append sl64 rfl rfl (by repeat (first | exact Take1.head | apply Take1.tail)) (Reads.of (rdRu hxo) (by repeat (first | exact Take1.head | apply Take1.tail))) (Ru.ones x) (show out.length + 1 = (out ++ [x]).length by simp) (show vcs ruV out ++ x.cells = vcs ruV (out ++ [x]) by rw [vcs_app, vcs_one]; rfl) (by simp; unfold maxLen; omega) (by simp; omega)) rfl ?_
      rintro ⟨⟨ao37, c37⟩, hc37⟩
      dsimp only at hc37 ⊢
      refine WL.y (Yl.assign rfl) rfl ?_
      refine WL.nil ?_
      refine WC.region ?_
      refine WL.y (Yl.move rfl) rfl ?_
      refine WL.y (Yl.sub rfl rfl (IntWalk.i64_in _ (by omega))) rfl ?_
      refine WL.y (Yl.assign rfl) rfl ?_
      refine WL.nil ?_
      refine ⟨rfl, (m - 1, out ++ [x], c5B B1 false, c5W B1 false, X1 || cX B1 false, (a3, c3), (ao37, c37)), ⟨?_, r3, hc3, hk5, by dsimp only; omega, by simp; omega, ho.app (fun q hq => by rw [List.mem_singleton.1 hq]; exact hxo), by simp; omega⟩, by dsimp only; omega, (by repeat (first | exact Sub.nil | refine Sub.cons rfl ?_)), _, (by repeat (first | exact TakeL.nil | (apply TakeL.cons; · repeat (first | exact Take1.head | apply Take1.tail))))⟩
      dsimp only
      rw [hT, show m.toNat = (m - 1).toNat + 1 by omega]
      simp [tlr, hx]
    · refine WC.exit ?_
      refine WC.seq ?_
      refine WC.seq ?_
      have hfin : T = (out, B1, W1, X1) := by
        rw [hT]
        cases W1 with
        | true => rw [tlr_wr]; simp
        | false =>
          have : ¬ 0 < m := by simpa using g29
          rw [show m.toNat = 0 by omega]
          simp [tlr]
      clear hT
      subst hfin
      refine WC.region ?_
      refine WL.y (Yl.move rfl) rfl ?_
      refine WL.y (Yl.nilEq un91 rfl rfl) rfl ?_
      refine WL.know (t := 39) (b' := false) rfl (by first | rfl | (simp; done) | (simp; omega)) ?_
      refine WL.y (Yl.move rfl) rfl ?_
      refine WL.on rfl rfl ?_
      refine WL.y (Yl.move rfl) rfl ?_
      refine WL.on rfl rfl ?_
      refine WL.y (Yl.nilCheck rfl) rfl ?_
      refine WL.on rfl rfl ?_
      refine WL.y (Yl.field fo117_1 rfl) rfl ?_
      refine WL.on rfl rfl ?_
      refine WL.y (Yl.load on4 rfl (by repeat (first | exact Take1.head | apply Take1.tail)) (by rfl)) rfl ?_
      refine WL.y (Yl.pickF rfl rfl) rfl ?_
      refine WL.nil ?_
      refine WC.cond rfl (fun g45 => ?_) (fun g45 => ?_)
      · refine WC.seq ?_
        refine WC.region ?_
        refine WL.y (Yl.assign rfl) rfl ?_
        refine WL.nil ?_
        refine WC.ret ?_
        repeat (first | (with_reducible refine peelT ?_) | (with_reducible refine peelB ?_) | (with_reducible refine peelTX ?_) | (with_reducible refine peelBX ?_) | (with_reducible refine peelBN ?_) | (with_reducible refine peelBO rfl ?_))
        have e : W1 = true := g45
        subst e
        exact ret1 (.inr rfl) Try.results44 rfl fun w' h => ⟨((none, 0), a1, c1), ⟨(fun _ h => nomatch h), Nat.zero_le _⟩, rfl, (h.addNil 24 5).sub (by repeat (first | exact TakeL.nil | (apply TakeL.cons; · repeat (first | exact Take1.head | apply Take1.tail))))⟩
      · refine WC.skip ?_
        refine WC.seq ?_
        refine WC.region ?_
        refine WL.y (Yl.move rfl) rfl ?_
        refine WL.y (Yl.assign rfl) rfl ?_
        refine WL.nil ?_
        refine WC.ret ?_
        repeat (first | (with_reducible refine peelT ?_) | (with_reducible refine peelB ?_) | (with_reducible refine peelTX ?_) | (with_reducible refine peelBX ?_) | (with_reducible refine peelBN ?_) | (with_reducible refine peelBO rfl ?_))
        have e : W1 = false := g45
        subst e
        exact ret1 (.inr rfl) Try.results44 rfl fun w' h => ⟨((ao2, c2), a1, c1), ⟨ho, ho64⟩, rfl, h.sub (by repeat (first | exact TakeL.nil | (apply TakeL.cons; · repeat (first | exact Take1.head | apply Take1.tail))))⟩
end
/-- What bytes are loaded to. -/
def ldF (bs : List Int) : Int := val (tkR 1 bs false)
def ldS (bs : List Int) : List Ru × List Int × Bool × Bool := tuS (tkB 1 bs false) (tkW 1 bs false) false
def ldL (bs : List Int) : List Ru := tuL (tkB 1 bs false) (tkW 1 bs false) false
def ldO (bs : List Int) : Bool := telU (ldF bs) && decide (endE (ldS bs).2.1 (ldS bs).2.2.1 = 0) && !(ldS bs).2.2.2 && (ldL bs).all mayU
def ldP (bs : List Int) : Po := { Po.new (ldF bs) with rl := ldL bs }
set_option maxRecDepth 100000 in
theorem loadBad_any (xv : Value) (bs : List Int) (hB : Bytes bs) (hs : bs.length ≤ 1000000) (hd : telU (ldF bs) = false) (w : World) (hx : RdS w (fpL []) xv 1 bs.length (ints .u8 bs)) (hw : OK w (fpL []) [] w) :
    Fn Try.prog 23 [xv] [] w (fun _ : Unit => True) (fun _ => .tuple #[.pointer none, .int .i64 9]) (fun _ => []) := by
  refine enterF Try.func23 rfl Try.ntmps23 rfl hw ?_
  refine WC.seq ?_
  refine WC.region ?_
  refine WL.y (Yl.assign rfl) rfl ?_
  refine WL.y (Yl.assign rfl) rfl ?_
  refine WL.nil ?_
  refine WC.seq ?_
  refine WC.region ?_
  refine WL.y (Yl.move rfl) rfl ?_
  refine WL.callC (xs := [.tmp 11]) (cap := []) rfl rfl en42 (by repeat (first | exact TakeL.nil | (apply TakeL.cons; · repeat (first | exact Take1.head | apply Take1.tail)))) (fun w hw => newIn_any xv bs (by omega) w (hw.srcS (A := []) hx) hw.left.here) rfl ?_
  rintro ⟨bi, ai, ci⟩ hci
  dsimp only [List.cons_append, List.nil_append] at hci ⊢
  refine WL.y (Yl.assign rfl) rfl ?_
  refine WL.nil ?_
  refine WC.seq ?_
  refine WC.region ?_
  refine WL.y (Yl.move rfl) rfl ?_
  refine WL.callC (xs := [.tmp 14]) (cap := []) rfl rfl en43 (by repeat (first | exact TakeL.nil | (apply TakeL.cons; · repeat (first | exact Take1.head | apply Take1.tail)))) (fun w hw => inU8_any bi ai ci bs false (ownR (.slice ai bs.length ci) 5 1 bs.length (ints .u8 bs)) RdOf.own hci hB w hw.left.here) rfl ?_
  rintro ⟨a1, k1⟩ ⟨r1, hc1⟩
  dsimp only [List.cons_append, List.nil_append] at r1 hc1 ⊢
  rw [show val (tkR 1 bs false) = ldF bs from rfl]
  refine WL.callC (xs := [.tmp 15]) (cap := []) rfl rfl en13 (by repeat (first | exact TakeL.nil | (apply TakeL.cons; · repeat (first | exact Take1.head | apply Take1.tail)))) (fun w hw => newBad_any (ldF bs) hd w hw.left.here) rfl ?_
  rintro ⟨⟩ -
  dsimp only [List.cons_append, List.nil_append]
  refine WL.y (Yl.move rfl) rfl ?_
  refine WL.y (Yl.extract rfl rfl) rfl ?_
  refine WL.y (Yl.extract rfl rfl) rfl ?_
  refine WL.y (Yl.assign rfl) rfl ?_
  refine WL.y (Yl.assign rfl) rfl ?_
  refine WL.nil ?_
  refine WC.seq ?_
  refine WC.region ?_
  refine WL.to (To.alloc (cs := [.bool false]) zr4 rfl) rfl ?_
  intro b7
  refine WL.sto (Sto.one sz4 rfl rfl (by repeat (first | exact Take1.head | apply Take1.tail)) rfl (by rfl) (by rfl)) (fun _ h => nomatch h) ?_
  refine WL.nil ?_
  refine WC.seq ?_
  refine WC.region ?_
  refine WL.y (Yl.move rfl) rfl ?_
  refine WL.y (Yl.makeFunc (xs := []) (ys := [.tmp 7]) rfl rfl) rfl ?_
  refine WL.callC (xs := [.tmp 19, _, .tmp 20]) (cap := []) rfl rfl en44 (by repeat (first | exact TakeL.nil | (apply TakeL.cons; · repeat (first | exact Take1.head | apply Take1.tail)))) (fun w hw => tlu_any bi a1 k1 (tkB 1 bs false) (tkW 1 bs false) (ownR (.slice ai bs.length ci) 5 1 bs.length (ints .u8 bs)) r1 hc1 (hB.tkB 1 false) b7 false w hw.left.here) rfl ?_
  rintro ⟨⟨a21, k21⟩, a2, k2⟩ ⟨hL, hl64⟩
  dsimp only [List.cons_append, List.nil_append] at hL hl64 ⊢
  refine WL.y (Yl.assign rfl) rfl ?_
  refine WL.nil ?_
  refine WC.seq ?_
  refine WC.seq ?_
  refine WC.region ?_
  refine WL.y (Yl.move rfl) rfl ?_
  refine WL.y (Yl.neq rfl rfl) rfl ?_
  refine WL.know (t := 23) (b' := true) rfl (by first | rfl | (simp; done) | (simp; omega)) ?_
  refine WL.y (Yl.move rfl) rfl ?_
  refine WL.off rfl rfl rfl rfl ?_
  refine WL.off rfl rfl rfl rfl ?_
  refine WL.off rfl rfl rfl rfl ?_
  refine WL.y (Yl.pickT rfl rfl) rfl ?_
  refine WL.y (Yl.move rfl) rfl ?_
  refine WL.off rfl rfl rfl rfl ?_
  refine WL.y (Yl.pickT rfl rfl) rfl ?_
  refine WL.nil ?_
  refine WC.condT rfl (by first | rfl | (simp; done) | (simp; omega)) ?_
  refine WC.seq ?_
  refine WC.region ?_
  refine WL.y (Yl.assign rfl) rfl ?_
  refine WL.y (Yl.assign rfl) rfl ?_
  refine WL.nil ?_
  refine WC.ret ?_
  repeat (first | (with_reducible refine peelT ?_) | (with_reducible refine peelB ?_) | (with_reducible refine peelTX ?_) | (with_reducible refine peelBX ?_) | (with_reducible refine peelBN ?_) | (with_reducible refine peelBO rfl ?_))
  exact ret2 (.inr rfl) Try.results23 rfl rfl fun w' h => ⟨(), trivial, rfl, h.sub (by repeat (first | exact TakeL.nil | (apply TakeL.cons; · repeat (first | exact Take1.head | apply Take1.tail))))⟩
theorem newOk_any (d : Int) (rs : List Ru) (h : telU d = true) (hr : UOk rs) (hm : ∀ r ∈ rs, mayU r = true) (hl : rs.length ≤ 64) : ({ Po.new d with rl := rs } : Po).ok := by
  have h0 := Po.new_ok h
  exact ⟨h0.df, fun r h => ⟨hr r h, hm r h⟩, hl, h0.la, h0.lar, h0.no⟩
set_option maxRecDepth 100000 in
theorem loadP_any (xv : Value) (bs : List Int) (hB : Bytes bs) (hs : bs.length ≤ 1000000) (hd : telU (ldF bs) = true) (w : World) (hx : RdS w (fpL []) xv 1 bs.length (ints .u8 bs)) (hw : OK w (fpL []) [] w) :
    Fn Try.prog 23 [xv] [] w (fun _ : Nat × Option Addr × Nat => True) (fun y => .tuple #[.pointer (if ldO bs then some ⟨y.1, 0, none⟩ else none), .int .i64 (if ldO bs then 0 else 9)]) (fun y => if ldO bs then polR y.1 y.2.1 y.2.2 (ldP bs) else []) := by
  refine enterF Try.func23 rfl Try.ntmps23 rfl hw ?_
  refine WC.seq ?_
  refine WC.region ?_
  refine WL.y (Yl.assign rfl) rfl ?_
  refine WL.y (Yl.assign rfl) rfl ?_
  refine WL.nil ?_
  refine WC.seq ?_
  refine WC.region ?_
  refine WL.y (Yl.move rfl) rfl ?_
  refine WL.callC (xs := [.tmp 11]) (cap := []) rfl rfl en42 (by repeat (first | exact TakeL.nil | (apply TakeL.cons; · repeat (first | exact Take1.head | apply Take1.tail)))) (fun w hw => newIn_any xv bs (by omega) w (hw.srcS (A := []) hx) hw.left.here) rfl ?_
  rintro ⟨bi, ai, ci⟩ hci
  dsimp only [List.cons_append, List.nil_append] at hci ⊢
  refine WL.y (Yl.assign rfl) rfl ?_
  refine WL.nil ?_
  refine WC.seq ?_
  refine WC.region ?_
  refine WL.y (Yl.move rfl) rfl ?_
  refine WL.callC (xs := [.tmp 14]) (cap := []) rfl rfl en43 (by repeat (first | exact TakeL.nil | (apply TakeL.cons; · repeat (first | exact Take1.head | apply Take1.tail)))) (fun w hw => inU8_any bi ai ci bs false (ownR (.slice ai bs.length ci) 5 1 bs.length (ints .u8 bs)) RdOf.own hci hB w hw.left.here) rfl ?_
  rintro ⟨a1, k1⟩ ⟨r1, hc1⟩
  dsimp only [List.cons_append, List.nil_append] at r1 hc1 ⊢
  rw [show val (tkR 1 bs false) = ldF bs from rfl]
  refine WL.callC (xs := [.tmp 15]) (cap := []) rfl rfl en13 (by repeat (first | exact TakeL.nil | (apply TakeL.cons; · repeat (first | exact Take1.head | apply Take1.tail)))) (fun w hw => newP_any (ldF bs) hd w hw.left.here) rfl ?_
  rintro bp -
  dsimp only [polR, List.cons_append, List.nil_append]
  refine WL.y (Yl.move rfl) rfl ?_
  refine WL.y (Yl.extract rfl rfl) rfl ?_
  refine WL.y (Yl.extract rfl rfl) rfl ?_
  refine WL.y (Yl.assign rfl) rfl ?_
  refine WL.y (Yl.assign rfl) rfl ?_
  refine WL.nil ?_
  refine WC.seq ?_
  refine WC.region ?_
  refine WL.to (To.alloc (cs := [.bool false]) zr4 rfl) rfl ?_
  intro b7
  refine WL.sto (Sto.one sz4 rfl rfl (by repeat (first | exact Take1.head | apply Take1.tail)) rfl (by rfl) (by rfl)) (fun _ h => nomatch h) ?_
  refine WL.nil ?_
  refine WC.seq ?_
  refine WC.region ?_
  refine WL.y (Yl.move rfl) rfl ?_
  refine WL.y (Yl.makeFunc (xs := []) (ys := [.tmp 7]) rfl rfl) rfl ?_
  refine WL.callC (xs := [.tmp 19, _, .tmp 20]) (cap := []) rfl rfl en44 (by repeat (first | exact TakeL.nil | (apply TakeL.cons; · repeat (first | exact Take1.head | apply Take1.tail)))) (fun w hw => tlu_any bi a1 k1 (tkB 1 bs false) (tkW 1 bs false) (ownR (.slice ai bs.length ci) 5 1 bs.length (ints .u8 bs)) r1 hc1 (hB.tkB 1 false) b7 false w hw.left.here) rfl ?_
  rintro ⟨⟨a21, k21⟩, a2, k2⟩ ⟨hL, hl64⟩
  dsimp only [List.cons_append, List.nil_append] at hL hl64 ⊢
  rw [show tuL (tkB 1 bs false) (tkW 1 bs false) false = ldL bs from rfl] at hL hl64 ⊢
  rw [show tuS (tkB 1 bs false) (tkW 1 bs false) false = ldS bs from rfl]
  obtain ⟨L, hLL⟩ : ∃ L, ldL bs = L := ⟨_, rfl⟩
  obtain ⟨⟨T1, T2, T3, T4⟩, hSS⟩ : ∃ L, ldS bs = L := ⟨_, rfl⟩
  have hldO : ldO bs = (decide (endE T2 T3 = 0) && !T4 && L.all mayU) := by unfold ldO; rw [hd, hSS, hLL]; simp
  have hldP : ldP bs = { Po.new (ldF bs) with rl := L } := by unfold ldP; rw [hLL]
  rw [hLL] at hL hl64 ⊢
  rw [hSS]
  dsimp only
  refine WL.y (Yl.assign rfl) rfl ?_
  refine WL.nil ?_
  refine WC.seq ?_
  refine WC.seq ?_
  refine WC.region ?_
  refine WL.y (Yl.move rfl) rfl ?_
  refine WL.y (Yl.neq rfl rfl) rfl ?_
  refine WL.know (t := 23) (b' := false) rfl (by first | rfl | (simp; done) | (simp; omega)) ?_
  refine WL.y (Yl.move rfl) rfl ?_
  refine WL.on rfl rfl ?_
  refine WL.y (Yl.move rfl) rfl ?_
  refine WL.on rfl rfl ?_
  refine WL.callC (xs := [.tmp 25]) (cap := []) rfl rfl en48 (by repeat (first | exact TakeL.nil | (apply TakeL.cons; · repeat (first | exact Take1.head | apply Take1.tail)))) (fun w hw => inEnd_any bi a2 k2 T2 T3 w hw.left.here) rfl ?_
  rintro ⟨⟩ -
  dsimp only [List.cons_append, List.nil_append]
  refine WL.on rfl rfl ?_
  refine WL.y (Yl.neq rfl rfl) rfl ?_
  refine WL.y (Yl.pickF rfl rfl) rfl ?_
  refine WL.y (Yl.move rfl) rfl ?_
  refine WL.both (t := 29) rfl (fun g29 => ?_) (fun g29 => ?_)
  · refine WL.off rfl rfl rfl rfl ?_
    refine WL.y (Yl.pickT rfl rfl) rfl ?_
    refine WL.nil ?_
    refine WC.condT rfl (by first | rfl | (simp; done) | (simp; omega)) ?_
    refine WC.seq ?_
    refine WC.region ?_
    refine WL.y (Yl.assign rfl) rfl ?_
    refine WL.y (Yl.assign rfl) rfl ?_
    refine WL.nil ?_
    refine WC.ret ?_
    repeat (first | (with_reducible refine peelT ?_) | (with_reducible refine peelB ?_) | (with_reducible refine peelTX ?_) | (with_reducible refine peelBX ?_) | (with_reducible refine peelBN ?_) | (with_reducible refine peelBO rfl ?_))
    have hne : ¬ endE T2 T3 = 0 := by simpa using g29
    have e : ldO bs = false := by rw [hldO, decide_eq_false hne]; rfl
    rw [e]
    exact ret2 (.inr rfl) Try.results23 rfl rfl fun w' h => ⟨(0, none, 0), trivial, rfl, h.sub (by repeat (first | exact TakeL.nil | (apply TakeL.cons; · repeat (first | exact Take1.head | apply Take1.tail))))⟩
  · refine WL.on rfl rfl ?_
    refine WL.y (Yl.load on4 rfl (by repeat (first | exact Take1.head | apply Take1.tail)) (by rfl)) rfl ?_
    refine WL.y (Yl.pickF rfl rfl) rfl ?_
    refine WL.nil ?_
    refine WC.cond rfl (fun g31 => ?_) (fun g31 => ?_)
    · refine WC.seq ?_
      refine WC.region ?_
      refine WL.y (Yl.assign rfl) rfl ?_
      refine WL.y (Yl.assign rfl) rfl ?_
      refine WL.nil ?_
      refine WC.ret ?_
      repeat (first | (with_reducible refine peelT ?_) | (with_reducible refine peelB ?_) | (with_reducible refine peelTX ?_) | (with_reducible refine peelBX ?_) | (with_reducible refine peelBN ?_) | (with_reducible refine peelBO rfl ?_))
      have hX : T4 = true := by simpa using g31
      have e : ldO bs = false := by rw [hldO, hX]; simp
      rw [e]
      exact ret2 (.inr rfl) Try.results23 rfl rfl fun w' h => ⟨(0, none, 0), trivial, rfl, h.sub (by repeat (first | exact TakeL.nil | (apply TakeL.cons; · repeat (first | exact Take1.head | apply Take1.tail))))⟩
    · refine WC.skip ?_
      refine WC.seq ?_
      refine WC.seq ?_
      have he0 : endE T2 T3 = 0 := by simpa using g29
      have hX : T4 = false := by simpa using g31
      refine WC.region ?_
      refine WL.y (Yl.move rfl) rfl ?_
      refine WL.y (Yl.len un64 rfl) rfl ?_
      refine WL.y (Yl.move rfl) rfl ?_
      refine WL.nil ?_
      refine WC.block ?_
      refine WC.loop (α := Nat × (Option Addr × Nat)) (fun s => [(5, .pointer (some ⟨bp, 0, none⟩)), (32, .slice a21 L.length k21), (33, .int .i64 (L.length : Int)), (34, .int .i64 (s.1 : Int))]) (fun s => ownR (.slice a21 L.length k21) 24 5 L.length (vcs ruV L) :: polR bp s.2.1 s.2.2 { Po.new (ldF bs) with rl := L.take s.1 }) (fun s => s.1 ≤ L.length ∧ ∀ r ∈ L.take s.1, mayU r = true) (fun s => L.length - s.1) (0, (none, 0)) ⟨Nat.zero_le _, fun r h => by simp at h⟩ ⟨(by repeat (first | exact Sub.nil | refine Sub.cons rfl ?_)), _, (by repeat (first | exact TakeL.nil | (apply TakeL.cons; · repeat (first | exact Take1.head | apply Take1.tail))))⟩ ?_
      rintro ⟨k, aoP, caP⟩ ⟨hk, hmk⟩
      dsimp only at hk hmk ⊢
      have htl : (L.take k).length = k := by rw [List.length_take]; omega
      have hpk : ({ Po.new (ldF bs) with rl := L.take k } : Po).ok := newOk_any (ldF bs) (L.take k) hd (fun r h => hL r (List.mem_of_mem_take h)) hmk (by omega)
      refine WC.seq ?_
      refine WC.region ?_
      refine WL.y (Yl.lss rfl rfl) rfl ?_
      refine WL.nil ?_
      refine WC.seq ?_
      refine WC.condD rfl (fun g35 => ?_) (fun g35 => ?_)
      · refine WC.skip ?_
        refine WC.seq ?_
        refine WC.block ?_
        refine WC.seq ?_
        refine WC.region ?_
        refine WL.y (Yl.move rfl) rfl ?_
        have hkl : k < L.length := by omega
        obtain ⟨x, hx0⟩ : ∃ x, L[k]? = some x := ⟨_, List.getElem?_eq_getElem hkl⟩
        have hxo := hL.get hx0
        have hnx := take_snoc _ _ _ hx0
        refine WL.y (Yl.index un64 sz24 rfl rfl (Reads.of (r := ownR (.slice a21 L.length k21) 24 5 L.length (vcs ruV L)) RdOf.own (by repeat (first | exact Take1.head | apply Take1.tail))) rfl (by omega)) rfl ?_
        refine WL.y (Yl.loadV (j := k) (u := x) vtU hL rfl (Reads.of (r := ownR (.slice a21 L.length k21) 24 5 L.length (vcs ruV L)) RdOf.own (by repeat (first | exact Take1.head | apply Take1.tail))) rfl hx0) rfl ?_
        refine WL.to (To.alloc (cs := Ru.zero.cells) zr24 rfl) rfl ?_
        intro b10
        refine WL.y (Yl.assign rfl) rfl ?_
        refine WL.sto (Sto.agg sz24 rfl rfl (by repeat (first | exact Take1.head | apply Take1.tail)) (Ru.ones _) (Ru.len x) (by rfl) (Ru.all Ru.zero x.cells (Ru.len x))) (fun _ h => nomatch h) ?_
        refine WL.nil ?_
        refine WC.seq ?_
        refine WC.region ?_
        refine WL.y (Yl.move rfl) rfl ?_
        refine WL.y (Yl.move rfl) rfl ?_
        refine WL.y (Yl.loadN ag24 rfl (by repeat (first | exact Take1.head | apply Take1.tail)) (by rfl) (Ru.call x)) rfl ?_
        refine WL.callC (xs := [.tmp 39, .tmp 40, .tmp 41]) (cap := []) rfl rfl en14 (by repeat (first | exact TakeL.nil | (apply TakeL.cons; · repeat (first | exact Take1.head | apply Take1.tail)))) (fun w hw => insP_any bp aoP caP { Po.new (ldF bs) with rl := L.take k } (k : Int) x hpk hxo w hw.left.here) rfl ?_
        rintro ⟨ao2, ca2⟩ -
        dsimp only [polR, List.cons_append, List.nil_append]
        refine WL.y (Yl.neq rfl rfl) rfl ?_
        refine WL.nil ?_
        refine WC.condD rfl (fun g43 => ?_) (fun g43 => ?_)
        · refine WC.seq ?_
          refine WC.region ?_
          refine WL.y (Yl.assign rfl) rfl ?_
          refine WL.y (Yl.assign rfl) rfl ?_
          refine WL.nil ?_
          refine WC.ret ?_
          repeat (first | (with_reducible refine peelT ?_) | (with_reducible refine peelB ?_) | (with_reducible refine peelTX ?_) | (with_reducible refine peelBX ?_) | (with_reducible refine peelBN ?_) | (with_reducible refine peelBO rfl ?_))
          have e : ldO bs = false := by
            cases hm : mayU x with
            | false =>
              rw [hldO]
              have : L.all mayU = false := List.all_eq_false.2 ⟨x, List.mem_of_getElem? hx0, by simp [hm]⟩
              rw [this, Bool.and_false]
            | true =>
              exact absurd (insE_ok (p := { Po.new (ldF bs) with rl := L.take k }) hm (by dsimp only; omega) (by dsimp only; omega)).1 g43
          rw [e]
          exact ret2 (.inr rfl) Try.results23 rfl rfl fun w' h => ⟨(0, none, 0), trivial, rfl, h.sub (by repeat (first | exact TakeL.nil | (apply TakeL.cons; · repeat (first | exact Take1.head | apply Take1.tail))))⟩
        · refine WC.skip ?_
          refine WC.region ?_
          refine WL.y (Yl.add rfl rfl (IntWalk.i64_in _ (by omega))) rfl ?_
          refine WL.y (Yl.move rfl) rfl ?_
          refine WL.nil ?_
          have hm : mayU x = true := by
            cases hm : mayU x with
            | false => exact absurd (insE_may (p := { Po.new (ldF bs) with rl := L.take k }) (z := (k : Int)) hm).1 (by intro h; rw [h] at g43; exact g43 (by omega))
            | true => rfl
          have hi := (insE_ok (p := { Po.new (ldF bs) with rl := L.take k }) (z := (k : Int)) hm (by dsimp only; omega) (by dsimp only; omega)).2
          have hi2 : insP { Po.new (ldF bs) with rl := L.take k } (k : Int) x = { Po.new (ldF bs) with rl := L.take (k + 1) } := by
            rw [hi, Int.toNat_natCast]
            dsimp only
            unfold insU
            rw [List.take_of_length_le (by omega), List.drop_of_length_le (by omega), ← hnx]
          rw [hi2]
          exact ⟨rfl, (k + 1, ao2, ca2), ⟨by dsimp only; omega, fun r hr => by
            rw [← hnx] at hr
            rcases List.mem_append.1 hr with hr | hr
            · exact hmk r hr
            · rw [List.mem_singleton.1 hr]; exact hm⟩, by dsimp only; omega, (by repeat (first | exact Sub.nil | refine Sub.cons rfl ?_)), _, (by repeat (first | exact TakeL.nil | (apply TakeL.cons; · repeat (first | exact Take1.head | apply Take1.tail))))⟩
      · refine WC.exit ?_
        refine WC.seq ?_
        refine WC.region ?_
        refine WL.y (Yl.move rfl) rfl ?_
        refine WL.y (Yl.assign rfl) rfl ?_
        refine WL.y (Yl.assign rfl) rfl ?_
        refine WL.nil ?_
        refine WC.ret ?_
        repeat (first | (with_reducible refine peelT ?_) | (with_reducible refine peelB ?_) | (with_reducible refine peelTX ?_) | (with_reducible refine peelBX ?_) | (with_reducible refine peelBN ?_) | (with_reducible refine peelBO rfl ?_))
        have hkl : k = L.length := by omega
        subst hkl
        rw [List.take_length] at hmk ⊢
        have e : ldO bs = true := by rw [hldO, he0, hX, List.all_eq_true.2 hmk]; rfl
        rw [e, hldP]
        exact ret2 (.inr rfl) Try.results23 rfl rfl fun w' h => ⟨(bp, aoP, caP), trivial, rfl, h.sub (by repeat (first | exact TakeL.nil | (apply TakeL.cons; · repeat (first | exact Take1.head | apply Take1.tail))))⟩
end Go.Proofs.Ytnlibngncicobaa
