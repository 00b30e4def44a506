/- The reference's words: power, cut, turn, mix, four: the walks. -/
import Derived.Test.YtfdnnlcfolgegaaShaP
namespace Go.Proofs.Ytfdnnlcfolgegaa
open Go Go.RowKit

def cutF (x : Int) (bt : Nat) : Int := if bt = 64 then x else x % 2 ^ bt
def rturn (x : Int) (n bt : Nat) : Int := IntKind.u64.wrap (x / 2 ^ n + cutF (IntKind.u64.wrap (x * 2 ^ (bt - n))) bt)
def rmix (x : Int) (a b c bt : Nat) (shift : Bool) : Int := bits .xor .u64 (bits .xor .u64 (rturn x a bt) (rturn x b bt)) (if shift then x / 2 ^ c else rturn x c bt)
def fourF (i x : Int) (bt : Nat) : Int :=
  if bt = 32 then (if i = 0 then rmix x 2 13 22 32 false else if i = 1 then rmix x 6 11 25 32 false else if i = 2 then rmix x 7 18 3 32 true else rmix x 17 19 10 32 true)
  else (if i = 0 then rmix x 28 34 39 64 false else if i = 1 then rmix x 14 18 41 64 false else if i = 2 then rmix x 1 8 7 64 true else rmix x 19 61 6 64 true)

def W64 (x : Int) : Prop := 0 ≤ x ∧ x < 18446744073709551616
theorem u64_in' {n : Int} (h : W64 n) : IntKind.u64.wrap n = n := by rw [IntKind.wrap_u64]; unfold W64 at h; omega
theorem u64_wrap (n : Int) : W64 (IntKind.u64.wrap n) := by rw [IntKind.wrap_u64]; unfold W64; omega
theorem pow_pos (n : Nat) : (0 : Int) < 2 ^ n := Int.pow_pos (by decide)
theorem u64_quo {x y : Int} (h : W64 x) (hy : 0 < y) : IntKind.u64.wrap (x.tdiv y) = x / y := by
  rw [Int.tdiv_eq_ediv_of_nonneg h.1]
  have h1 : 0 ≤ x / y := Int.ediv_nonneg h.1 (by omega)
  have h2 : x / y ≤ x := Int.ediv_le_self _ h.1
  exact u64_in' ⟨h1, by have := h.2; omega⟩
theorem pow_le {j : Nat} (h : j ≤ 63) : (2 : Int) ^ j ≤ 9223372036854775808 := by
  have := Nat.pow_le_pow_right (n := 2) (by decide) h
  have e : ((2 ^ j : Nat) : Int) = (2 : Int) ^ j := by simp
  have e2 : (2 : Nat) ^ 63 = 9223372036854775808 := by decide
  omega

theorem power_any (n : Nat) (hn : n ≤ 63) (w : World) (hw : OK w (fpL []) [] w) : Fn Try.prog 67 [.int .i64 (n : Int)] [] w (fun _ : Unit => True) (fun _ => .int .u64 (2 ^ n)) (fun _ => []) := by
  refine enterF Try.func67 rfl Try.ntmps67 rfl hw ?_
  refine WC.seq ?_
  refine WC.region ?_
  refine WL.y (Yl.assign rfl) rfl ?_ -- t2
  refine WL.nil ?_
  refine WC.seq ?_
  refine WC.region ?_
  refine WL.y (Yl.assign rfl) rfl ?_ -- t3
  refine WL.nil ?_
  refine WC.seq ?_
  refine WC.seq ?_
  refine WC.region ?_
  refine WL.y (Yl.assign rfl) rfl ?_ -- t4
  refine WL.nil ?_
  refine WC.block ?_
  refine WC.loop (α := Nat) (fun j => [(0, .int .i64 (n : Int)), (3, .int .u64 (2 ^ j)), (4, .int .i64 (j : Int))]) (fun _ => []) (fun j => j ≤ n) (fun j => n - j) 0 (Nat.zero_le _) ⟨(by repeat (first | exact Sub.nil | refine Sub.cons rfl ?_)), _, (by repeat (first | exact TakeL.nil | (apply TakeL.cons; · repeat (first | exact Take1.head | apply Take1.tail))))⟩ ?_
  intro j hj
  refine WC.seq ?_
  refine WC.seq ?_
  refine WC.region ?_
  refine WL.y (Yl.move rfl) rfl ?_ -- t5
  refine WL.y (Yl.move rfl) rfl ?_ -- t6
  refine WL.y (Yl.lss rfl rfl) rfl ?_ -- t7
  refine WL.nil ?_
  refine WC.condD rfl (fun g7 => ?_) (fun g7 => ?_)
  · refine WC.skip ?_
    refine WC.seq ?_
    refine WC.block ?_
    refine WC.region ?_
    refine WL.y (Yl.move rfl) rfl ?_ -- t10
    refine WL.y (Yl.mul rfl rfl rfl) rfl ?_ -- t11
    refine WL.say (t := 11) (v' := .int .u64 (2 ^ (j + 1))) rfl (by (have h1 := pow_pos j; have h2 := pow_le (j := j + 1) (by omega); rw [Int.pow_succ] at h2 ⊢; rw [Int.mul_comm, u64_in' ⟨by omega, by omega⟩])) ?_
    refine WL.y (Yl.assign rfl) rfl ?_ -- t3
    refine WL.nil ?_
    refine WC.region ?_
    refine WL.y (Yl.move rfl) rfl ?_ -- t8
    refine WL.y (Yl.add rfl rfl (IntWalk.i64_in _ (by omega))) rfl ?_ -- t9
    refine WL.y (Yl.assign rfl) rfl ?_ -- t4
    refine WL.nil ?_
    exact ⟨rfl, j + 1, by omega, by omega, (by repeat (first | exact Sub.nil | refine Sub.cons rfl ?_)), _, (by repeat (first | exact TakeL.nil | (apply TakeL.cons; · repeat (first | exact Take1.head | apply Take1.tail))))⟩
  · refine WC.exit ?_
    refine WC.seq ?_
    refine WC.region ?_
    refine WL.y (Yl.move rfl) rfl ?_ -- t12
    refine WL.y (Yl.assign rfl) rfl ?_ -- t2
    refine WL.nil ?_
    refine WC.ret ?_
    repeat (first | (with_reducible refine peelT ?_) | (with_reducible refine peelB ?_) | (with_reducible refine peelTX ?_) | (with_reducible refine peelBX ?_) | (with_reducible refine peelBN ?_) | (with_reducible refine peelBO rfl ?_))
    have hj2 : j = n := by omega
    subst hj2
    exact ret1 (.inr rfl) Try.results67 rfl fun w' h => ⟨(), trivial, rfl, h.sub (by repeat (first | exact TakeL.nil | (apply TakeL.cons; · repeat (first | exact Take1.head | apply Take1.tail))))⟩

theorem cut_any (x : Int) (hx : 0 ≤ x) (bt : Nat) (hb : bt ≤ 64) (w : World) (hw : OK w (fpL []) [] w) : Fn Try.prog 69 [.int .u64 x, .int .i64 (bt : Int)] [] w (fun _ : Unit => True) (fun _ => .int .u64 (cutF x bt)) (fun _ => []) := by
  refine enterF Try.func69 rfl Try.ntmps69 rfl hw ?_
  refine WC.seq ?_
  refine WC.region ?_
  refine WL.y (Yl.assign rfl) rfl ?_ -- t4
  refine WL.nil ?_
  refine WC.seq ?_
  refine WC.seq ?_
  refine WC.region ?_
  refine WL.y (Yl.move rfl) rfl ?_ -- t5
  refine WL.y (Yl.eql rfl rfl) rfl ?_ -- t6
  refine WL.nil ?_
  refine WC.condD rfl (fun g6 => ?_) (fun g6 => ?_)
  · refine WC.seq ?_
    refine WC.region ?_
    refine WL.y (Yl.move rfl) rfl ?_ -- t7
    refine WL.y (Yl.assign rfl) rfl ?_ -- t4
    refine WL.nil ?_
    refine WC.ret ?_
    repeat (first | (with_reducible refine peelT ?_) | (with_reducible refine peelB ?_) | (with_reducible refine peelTX ?_) | (with_reducible refine peelBX ?_) | (with_reducible refine peelBN ?_) | (with_reducible refine peelBO rfl ?_))
    have e : cutF x bt = x := by unfold cutF; rw [if_pos (by omega)]
    rw [e]
    exact ret1 (.inr rfl) Try.results69 rfl fun w' h => ⟨(), trivial, rfl, h.sub (by repeat (first | exact TakeL.nil | (apply TakeL.cons; · repeat (first | exact Take1.head | apply Take1.tail))))⟩
  · refine WC.skip ?_
    refine WC.seq ?_
    refine WC.region ?_
    refine WL.y (Yl.move rfl) rfl ?_ -- t8
    refine WL.y (Yl.move rfl) rfl ?_ -- t9
    refine WL.callC (xs := [.tmp 9]) (cap := []) rfl rfl en67 (by repeat (first | exact TakeL.nil | (apply TakeL.cons; · repeat (first | exact Take1.head | apply Take1.tail)))) (fun w hw => power_any bt (by omega) w hw.left.here) rfl ?_ -- t10 hailer/hailerref01.power
    rintro ⟨⟩ -
    refine WL.y (Yl.rem rfl rfl (Int.ne_of_gt (pow_pos bt)) (Int.tmod_eq_emod_of_nonneg hx)) rfl ?_
    refine WL.y (Yl.assign rfl) rfl ?_ -- t4
    refine WL.nil ?_
    refine WC.ret ?_
    repeat (first | (with_reducible refine peelT ?_) | (with_reducible refine peelB ?_) | (with_reducible refine peelTX ?_) | (with_reducible refine peelBX ?_) | (with_reducible refine peelBN ?_) | (with_reducible refine peelBO rfl ?_))
    have e : cutF x bt = x % 2 ^ bt := by unfold cutF; rw [if_neg (by omega)]
    rw [e]
    exact ret1 (.inr rfl) Try.results69 rfl fun w' h => ⟨(), trivial, rfl, h.sub (by repeat (first | exact TakeL.nil | (apply TakeL.cons; · repeat (first | exact Take1.head | apply Take1.tail))))⟩

theorem rturn_any (x : Int) (hx : W64 x) (n bt : Nat) (hn : 1 ≤ n ∧ n ≤ 63) (hb : n ≤ bt ∧ bt ≤ 64) (w : World) (hw : OK w (fpL []) [] w) : Fn Try.prog 85 [.int .u64 x, .int .i64 (n : Int), .int .i64 (bt : Int)] [] w (fun _ : Unit => True) (fun _ => .int .u64 (rturn x n bt)) (fun _ => []) := by
  refine enterF Try.func85 rfl Try.ntmps85 rfl hw ?_
  refine WC.seq ?_
  refine WC.region ?_
  refine WL.y (Yl.assign rfl) rfl ?_ -- t6
  refine WL.nil ?_
  refine WC.seq ?_
  refine WC.drawAny (Hs := []) mixed (by kernel_rfl) ⟨_, (by repeat (first | exact TakeL.nil | (apply TakeL.cons; · repeat (first | exact Take1.head | apply Take1.tail))))⟩ ?_
  refine WD.take 0 rfl (by kernel_rfl) (by kernel_rfl) (by kernel_rfl) rfl rfl (Yl.move rfl) rfl ?_ -- t7
  refine WD.take 1 rfl (by kernel_rfl) (by kernel_rfl) (by kernel_rfl) rfl rfl (Yl.move rfl) rfl ?_ -- t8
  refine WD.take 4 rfl (by kernel_rfl) (by kernel_rfl) (by kernel_rfl) rfl rfl (Yl.move rfl) rfl ?_ -- t11
  refine WD.take 5 rfl (by kernel_rfl) (by kernel_rfl) (by kernel_rfl) rfl rfl (Yl.move rfl) rfl ?_ -- t12
  refine WD.take 6 rfl (by kernel_rfl) (by kernel_rfl) (by kernel_rfl) rfl rfl (Yl.move rfl) rfl ?_ -- t13
  refine WD.take 7 rfl (by kernel_rfl) (by kernel_rfl) (by kernel_rfl) rfl rfl (Yl.sub rfl rfl (IntWalk.i64_in _ (by omega))) rfl ?_ -- t14
  refine WD.say (t := 14) (v' := .int .i64 ((bt - n : Nat) : Int)) rfl (by (refine congrArg _ ?_; omega)) ?_
  refine WD.take 10 rfl (by kernel_rfl) (by kernel_rfl) (by kernel_rfl) rfl rfl (Yl.move rfl) rfl ?_ -- t17
  refine WD.one 2 (by kernel_rfl) ?_
  refine WO.callC (xs := [.tmp 8]) (cap := []) rfl .no rfl rfl en67 (by repeat (first | exact TakeL.nil | (apply TakeL.cons; · repeat (first | exact Take1.head | apply Take1.tail)))) (fun w hw => power_any n hn.2 w hw.left.here) rfl (fun _ => ⟨_, (by repeat (first | exact TakeL.nil | (apply TakeL.cons; · repeat (first | exact Take1.head | apply Take1.tail))))⟩) ?_ -- t9 hailer/hailerref01.power
  rintro ⟨⟩ -
  refine WD.take 3 rfl (by kernel_rfl) (by kernel_rfl) (by kernel_rfl) rfl rfl (Yl.quo rfl rfl (Int.ne_of_gt (pow_pos n)) (u64_quo hx (pow_pos n))) rfl ?_
  refine WD.one 8 (by kernel_rfl) ?_
  refine WO.callC (xs := [.tmp 14]) (cap := []) rfl .no rfl rfl en67 (by repeat (first | exact TakeL.nil | (apply TakeL.cons; · repeat (first | exact Take1.head | apply Take1.tail)))) (fun w hw => power_any (bt - n) (by omega) w hw.left.here) rfl (fun _ => ⟨_, (by repeat (first | exact TakeL.nil | (apply TakeL.cons; · repeat (first | exact Take1.head | apply Take1.tail))))⟩) ?_ -- t15 hailer/hailerref01.power
  rintro ⟨⟩ -
  refine WD.take 9 rfl (by kernel_rfl) (by kernel_rfl) (by kernel_rfl) rfl rfl (Yl.mul rfl rfl rfl) rfl ?_ -- t16
  refine WD.one 11 (by kernel_rfl) ?_
  refine WO.callC (xs := [.tmp 16, .tmp 17]) (cap := []) rfl .no rfl rfl en69 (by repeat (first | exact TakeL.nil | (apply TakeL.cons; · repeat (first | exact Take1.head | apply Take1.tail)))) (fun w hw => cut_any _ (u64_wrap _).1 bt hb.2 w hw.left.here) rfl (fun _ => ⟨_, (by repeat (first | exact TakeL.nil | (apply TakeL.cons; · repeat (first | exact Take1.head | apply Take1.tail))))⟩) ?_ -- t18 hailer/hailerref01.cut
  rintro ⟨⟩ -
  refine WD.take 12 rfl (by kernel_rfl) (by kernel_rfl) (by kernel_rfl) rfl rfl (Yl.add rfl rfl rfl) rfl ?_ -- t19
  refine WD.take 13 rfl (by kernel_rfl) (by kernel_rfl) (by kernel_rfl) rfl rfl (Yl.assign rfl) rfl ?_ -- t6
  refine WD.done (by kernel_rfl) ?_
  refine WC.ret ?_
  repeat (first | (with_reducible refine peelT ?_) | (with_reducible refine peelB ?_) | (with_reducible refine peelTX ?_) | (with_reducible refine peelBX ?_) | (with_reducible refine peelBN ?_) | (with_reducible refine peelBO rfl ?_))
  exact ret1 (.inr rfl) Try.results85 rfl fun w' h => ⟨(), trivial, rfl, h.sub (by repeat (first | exact TakeL.nil | (apply TakeL.cons; · repeat (first | exact Take1.head | apply Take1.tail))))⟩

theorem rmix_any (x : Int) (hx : W64 x) (a b c bt : Nat) (sh : Bool) (ha : 1 ≤ a ∧ a ≤ 63 ∧ a ≤ bt) (hb : 1 ≤ b ∧ b ≤ 63 ∧ b ≤ bt) (hc : 1 ≤ c ∧ c ≤ 63 ∧ c ≤ bt) (hbt : bt ≤ 64) (w : World) (hw : OK w (fpL []) [] w) :
    Fn Try.prog 81 [.int .u64 x, .int .i64 (a : Int), .int .i64 (b : Int), .int .i64 (c : Int), .int .i64 (bt : Int), .bool sh] [] w (fun _ : Unit => True) (fun _ => .int .u64 (rmix x a b c bt sh)) (fun _ => []) := by
  refine enterF Try.func81 rfl Try.ntmps81 rfl hw ?_
  refine WC.seq ?_
  refine WC.region ?_
  refine WL.y (Yl.assign rfl) rfl ?_ -- t12
  refine WL.nil ?_
  refine WC.seq ?_
  refine WC.region ?_
  refine WL.y (Yl.move rfl) rfl ?_ -- t14
  refine WL.y (Yl.move rfl) rfl ?_ -- t15
  refine WL.callC (xs := [.tmp 15]) (cap := []) rfl rfl en67 (by repeat (first | exact TakeL.nil | (apply TakeL.cons; · repeat (first | exact Take1.head | apply Take1.tail)))) (fun w hw => power_any c hc.2.1 w hw.left.here) rfl ?_ -- t16 hailer/hailerref01.power
  rintro ⟨⟩ -
  refine WL.y (Yl.quo rfl rfl (Int.ne_of_gt (pow_pos c)) (u64_quo hx (pow_pos c))) rfl ?_
  refine WL.y (Yl.assign rfl) rfl ?_ -- t13
  refine WL.nil ?_
  refine WC.seq ?_
  refine WC.seq ?_
  refine WC.region ?_
  refine WL.y (Yl.move rfl) rfl ?_ -- t18
  refine WL.y (Yl.not rfl) rfl ?_ -- t19
  refine WL.nil ?_
  refine WC.cond rfl (fun g19 => ?_) (fun g19 => ?_)
  · refine WC.region ?_
    refine WL.y (Yl.move rfl) rfl ?_ -- t20
    refine WL.y (Yl.move rfl) rfl ?_ -- t21
    refine WL.y (Yl.move rfl) rfl ?_ -- t22
    refine WL.callC (xs := [.tmp 20, .tmp 21, .tmp 22]) (cap := []) rfl rfl en85 (by repeat (first | exact TakeL.nil | (apply TakeL.cons; · repeat (first | exact Take1.head | apply Take1.tail)))) (fun w hw => rturn_any x hx c bt ⟨hc.1, hc.2.1⟩ ⟨hc.2.2, hbt⟩ w hw.left.here) rfl ?_ -- t23 hailer/hailerref01.turn
    rintro ⟨⟩ -
    refine WL.y (Yl.assign rfl) rfl ?_ -- t13
    refine WL.nil ?_
    refine WC.seq ?_
    refine WC.region ?_
    refine WL.y (Yl.move rfl) rfl ?_ -- t24
    refine WL.y (Yl.move rfl) rfl ?_ -- t25
    refine WL.y (Yl.move rfl) rfl ?_ -- t26
    refine WL.callC (xs := [.tmp 24, .tmp 25, .tmp 26]) (cap := []) rfl rfl en85 (by repeat (first | exact TakeL.nil | (apply TakeL.cons; · repeat (first | exact Take1.head | apply Take1.tail)))) (fun w hw => rturn_any x hx a bt ⟨ha.1, ha.2.1⟩ ⟨ha.2.2, hbt⟩ w hw.left.here) rfl ?_ -- t27 hailer/hailerref01.turn
    rintro ⟨⟩ -
    refine WL.y (Yl.move rfl) rfl ?_ -- t28
    refine WL.y (Yl.move rfl) rfl ?_ -- t29
    refine WL.y (Yl.move rfl) rfl ?_ -- t30
    refine WL.callC (xs := [.tmp 28, .tmp 29, .tmp 30]) (cap := []) rfl rfl en85 (by repeat (first | exact TakeL.nil | (apply TakeL.cons; · repeat (first | exact Take1.head | apply Take1.tail)))) (fun w hw => rturn_any x hx b bt ⟨hb.1, hb.2.1⟩ ⟨hb.2.2, hbt⟩ w hw.left.here) rfl ?_ -- t31 hailer/hailerref01.turn
    rintro ⟨⟩ -
    refine WL.y (Yl.xor rfl rfl) rfl ?_ -- t32
    refine WL.y (Yl.move rfl) rfl ?_ -- t33
    refine WL.y (Yl.xor rfl rfl) rfl ?_ -- t34
    refine WL.y (Yl.assign rfl) rfl ?_ -- t12
    refine WL.nil ?_
    refine WC.ret ?_
    repeat (first | (with_reducible refine peelT ?_) | (with_reducible refine peelB ?_) | (with_reducible refine peelTX ?_) | (with_reducible refine peelBX ?_) | (with_reducible refine peelBN ?_) | (with_reducible refine peelBO rfl ?_))
    have hs : sh = false := by simpa using g19
    subst hs
    exact ret1 (.inr rfl) Try.results81 rfl fun w' h => ⟨(), trivial, rfl, h.sub (by repeat (first | exact TakeL.nil | (apply TakeL.cons; · repeat (first | exact Take1.head | apply Take1.tail))))⟩
  · refine WC.skip ?_
    refine WC.seq ?_
    refine WC.region ?_
    refine WL.y (Yl.move rfl) rfl ?_ -- t24
    refine WL.y (Yl.move rfl) rfl ?_ -- t25
    refine WL.y (Yl.move rfl) rfl ?_ -- t26
    refine WL.callC (xs := [.tmp 24, .tmp 25, .tmp 26]) (cap := []) rfl rfl en85 (by repeat (first | exact TakeL.nil | (apply TakeL.cons; · repeat (first | exact Take1.head | apply Take1.tail)))) (fun w hw => rturn_any x hx a bt ⟨ha.1, ha.2.1⟩ ⟨ha.2.2, hbt⟩ w hw.left.here) rfl ?_ -- t27 hailer/hailerref01.turn
    rintro ⟨⟩ -
    refine WL.y (Yl.move rfl) rfl ?_ -- t28
    refine WL.y (Yl.move rfl) rfl ?_ -- t29
    refine WL.y (Yl.move rfl) rfl ?_ -- t30
    refine WL.callC (xs := [.tmp 28, .tmp 29, .tmp 30]) (cap := []) rfl rfl en85 (by repeat (first | exact TakeL.nil | (apply TakeL.cons; · repeat (first | exact Take1.head | apply Take1.tail)))) (fun w hw => rturn_any x hx b bt ⟨hb.1, hb.2.1⟩ ⟨hb.2.2, hbt⟩ w hw.left.here) rfl ?_ -- t31 hailer/hailerref01.turn
    rintro ⟨⟩ -
    refine WL.y (Yl.xor rfl rfl) rfl ?_ -- t32
    refine WL.y (Yl.move rfl) rfl ?_ -- t33
    refine WL.y (Yl.xor rfl rfl) rfl ?_ -- t34
    refine WL.y (Yl.assign rfl) rfl ?_ -- t12
    refine WL.nil ?_
    refine WC.ret ?_
    repeat (first | (with_reducible refine peelT ?_) | (with_reducible refine peelB ?_) | (with_reducible refine peelTX ?_) | (with_reducible refine peelBX ?_) | (with_reducible refine peelBN ?_) | (with_reducible refine peelBO rfl ?_))
    have hs : sh = true := by simpa using g19
    subst hs
    exact ret1 (.inr rfl) Try.results81 rfl fun w' h => ⟨(), trivial, rfl, h.sub (by repeat (first | exact TakeL.nil | (apply TakeL.cons; · repeat (first | exact Take1.head | apply Take1.tail))))⟩

theorem four_any (i x : Int) (hx : W64 x) (bt : Nat) (hbt : bt = 32 ∨ bt = 64) (w : World) (hw : OK w (fpL []) [] w) :
    Fn Try.prog 70 [.int .i64 i, .int .u64 x, .int .i64 (bt : Int)] [] w (fun _ : Unit => True) (fun _ => .int .u64 (fourF i x bt)) (fun _ => []) := by
  refine enterF Try.func70 rfl Try.ntmps70 rfl hw ?_
  refine WC.seq ?_
  refine WC.region ?_
  refine WL.y (Yl.assign rfl) rfl ?_ -- t6
  refine WL.nil ?_
  refine WC.seq ?_
  refine WC.seq ?_
  refine WC.region ?_
  refine WL.y (Yl.move rfl) rfl ?_ -- t7
  refine WL.y (Yl.eql rfl rfl) rfl ?_ -- t8
  refine WL.nil ?_
  refine WC.condD rfl (fun g8 => ?_) (fun g8 => ?_)
  · refine WC.seq ?_
    refine WC.seq ?_
    refine WC.region ?_
    refine WL.y (Yl.move rfl) rfl ?_ -- t9
    refine WL.nil ?_
    refine WC.block ?_
    refine WC.seq ?_
    refine WC.region ?_
    refine WL.y (Yl.eql rfl rfl) rfl ?_ -- t11
    refine WL.y (Yl.assign rfl) rfl ?_ -- t10
    refine WL.nil ?_
    refine WC.condD rfl (fun g10 => ?_) (fun g10 => ?_)
    · refine WC.seq ?_
      refine WC.region ?_
      refine WL.y (Yl.move rfl) rfl ?_ -- t12
      refine WL.callC (xs := [.tmp 12, _, _, _, _, _]) (cap := []) rfl rfl en81 (by repeat (first | exact TakeL.nil | (apply TakeL.cons; · repeat (first | exact Take1.head | apply Take1.tail)))) (fun w hw => rmix_any x hx 2 13 22 32 false (by omega) (by omega) (by omega) (by omega) w hw.left.here) rfl ?_ -- t13 hailer/hailerref01.mix
      rintro ⟨⟩ -
      refine WL.y (Yl.assign rfl) rfl ?_ -- t6
      refine WL.nil ?_
      refine WC.ret ?_
      repeat (first | (with_reducible refine peelT ?_) | (with_reducible refine peelB ?_) | (with_reducible refine peelTX ?_) | (with_reducible refine peelBX ?_) | (with_reducible refine peelBN ?_) | (with_reducible refine peelBO rfl ?_))
      refine ret1 (.inr rfl) Try.results70 rfl fun w' h => ⟨(), trivial, ?_, h.sub (by repeat (first | exact TakeL.nil | (apply TakeL.cons; · repeat (first | exact Take1.head | apply Take1.tail))))⟩
      unfold fourF
      rcases hbt with rfl | rfl
      all_goals first | (exfalso; omega) | simp [*]
    · refine WC.seq ?_
      refine WC.region ?_
      refine WL.y (Yl.eql rfl rfl) rfl ?_ -- t15
      refine WL.y (Yl.assign rfl) rfl ?_ -- t14
      refine WL.nil ?_
      refine WC.condD rfl (fun g14 => ?_) (fun g14 => ?_)
      · refine WC.seq ?_
        refine WC.region ?_
        refine WL.y (Yl.move rfl) rfl ?_ -- t16
        refine WL.callC (xs := [.tmp 16, _, _, _, _, _]) (cap := []) rfl rfl en81 (by repeat (first | exact TakeL.nil | (apply TakeL.cons; · repeat (first | exact Take1.head | apply Take1.tail)))) (fun w hw => rmix_any x hx 6 11 25 32 false (by omega) (by omega) (by omega) (by omega) w hw.left.here) rfl ?_ -- t17 hailer/hailerref01.mix
        rintro ⟨⟩ -
        refine WL.y (Yl.assign rfl) rfl ?_ -- t6
        refine WL.nil ?_
        refine WC.ret ?_
        repeat (first | (with_reducible refine peelT ?_) | (with_reducible refine peelB ?_) | (with_reducible refine peelTX ?_) | (with_reducible refine peelBX ?_) | (with_reducible refine peelBN ?_) | (with_reducible refine peelBO rfl ?_))
        refine ret1 (.inr rfl) Try.results70 rfl fun w' h => ⟨(), trivial, ?_, h.sub (by repeat (first | exact TakeL.nil | (apply TakeL.cons; · repeat (first | exact Take1.head | apply Take1.tail))))⟩
        unfold fourF
        rcases hbt with rfl | rfl
        all_goals first | (exfalso; omega) | simp [*]
      · refine WC.seq ?_
        refine WC.region ?_
        refine WL.y (Yl.eql rfl rfl) rfl ?_ -- t19
        refine WL.y (Yl.assign rfl) rfl ?_ -- t18
        refine WL.nil ?_
        refine WC.condD rfl (fun g18 => ?_) (fun g18 => ?_)
        · refine WC.seq ?_
          refine WC.region ?_
          refine WL.y (Yl.move rfl) rfl ?_ -- t20
          refine WL.callC (xs := [.tmp 20, _, _, _, _, _]) (cap := []) rfl rfl en81 (by repeat (first | exact TakeL.nil | (apply TakeL.cons; · repeat (first | exact Take1.head | apply Take1.tail)))) (fun w hw => rmix_any x hx 7 18 3 32 true (by omega) (by omega) (by omega) (by omega) w hw.left.here) rfl ?_ -- t21 hailer/hailerref01.mix
          rintro ⟨⟩ -
          refine WL.y (Yl.assign rfl) rfl ?_ -- t6
          refine WL.nil ?_
          refine WC.ret ?_
          repeat (first | (with_reducible refine peelT ?_) | (with_reducible refine peelB ?_) | (with_reducible refine peelTX ?_) | (with_reducible refine peelBX ?_) | (with_reducible refine peelBN ?_) | (with_reducible refine peelBO rfl ?_))
          refine ret1 (.inr rfl) Try.results70 rfl fun w' h => ⟨(), trivial, ?_, h.sub (by repeat (first | exact TakeL.nil | (apply TakeL.cons; · repeat (first | exact Take1.head | apply Take1.tail))))⟩
          unfold fourF
          rcases hbt with rfl | rfl
          all_goals first | (exfalso; omega) | simp [*]
        · refine WC.skip ?_
          refine WC.seq ?_
          refine WC.region ?_
          refine WL.y (Yl.move rfl) rfl ?_ -- t22
          refine WL.callC (xs := [.tmp 22, _, _, _, _, _]) (cap := []) rfl rfl en81 (by repeat (first | exact TakeL.nil | (apply TakeL.cons; · repeat (first | exact Take1.head | apply Take1.tail)))) (fun w hw => rmix_any x hx 17 19 10 32 true (by omega) (by omega) (by omega) (by omega) w hw.left.here) rfl ?_ -- t23 hailer/hailerref01.mix
          rintro ⟨⟩ -
          refine WL.y (Yl.assign rfl) rfl ?_ -- t6
          refine WL.nil ?_
          refine WC.ret ?_
          repeat (first | (with_reducible refine peelT ?_) | (with_reducible refine peelB ?_) | (with_reducible refine peelTX ?_) | (with_reducible refine peelBX ?_) | (with_reducible refine peelBN ?_) | (with_reducible refine peelBO rfl ?_))
          refine ret1 (.inr rfl) Try.results70 rfl fun w' h => ⟨(), trivial, ?_, h.sub (by repeat (first | exact TakeL.nil | (apply TakeL.cons; · repeat (first | exact Take1.head | apply Take1.tail))))⟩
          unfold fourF
          rcases hbt with rfl | rfl
          all_goals first | (exfalso; omega) | simp [*]
  · refine WC.skip ?_
    refine WC.seq ?_
    refine WC.seq ?_
    refine WC.region ?_
    refine WL.y (Yl.move rfl) rfl ?_ -- t24
    refine WL.nil ?_
    refine WC.block ?_
    refine WC.seq ?_
    refine WC.region ?_
    refine WL.y (Yl.eql rfl rfl) rfl ?_ -- t26
    refine WL.y (Yl.assign rfl) rfl ?_ -- t25
    refine WL.nil ?_
    refine WC.condD rfl (fun g25 => ?_) (fun g25 => ?_)
    · refine WC.seq ?_
      refine WC.region ?_
      refine WL.y (Yl.move rfl) rfl ?_ -- t27
      refine WL.callC (xs := [.tmp 27, _, _, _, _, _]) (cap := []) rfl rfl en81 (by repeat (first | exact TakeL.nil | (apply TakeL.cons; · repeat (first | exact Take1.head | apply Take1.tail)))) (fun w hw => rmix_any x hx 28 34 39 64 false (by omega) (by omega) (by omega) (by omega) w hw.left.here) rfl ?_ -- t28 hailer/hailerref01.mix
      rintro ⟨⟩ -
      refine WL.y (Yl.assign rfl) rfl ?_ -- t6
      refine WL.nil ?_
      refine WC.ret ?_
      repeat (first | (with_reducible refine peelT ?_) | (with_reducible refine peelB ?_) | (with_reducible refine peelTX ?_) | (with_reducible refine peelBX ?_) | (with_reducible refine peelBN ?_) | (with_reducible refine peelBO rfl ?_))
      refine ret1 (.inr rfl) Try.results70 rfl fun w' h => ⟨(), trivial, ?_, h.sub (by repeat (first | exact TakeL.nil | (apply TakeL.cons; · repeat (first | exact Take1.head | apply Take1.tail))))⟩
      unfold fourF
      rcases hbt with rfl | rfl
      all_goals first | (exfalso; omega) | simp [*]
    · refine WC.seq ?_
      refine WC.region ?_
      refine WL.y (Yl.eql rfl rfl) rfl ?_ -- t30
      refine WL.y (Yl.assign rfl) rfl ?_ -- t29
      refine WL.nil ?_
      refine WC.condD rfl (fun g29 => ?_) (fun g29 => ?_)
      · refine WC.seq ?_
        refine WC.region ?_
        refine WL.y (Yl.move rfl) rfl ?_ -- t31
        refine WL.callC (xs := [.tmp 31, _, _, _, _, _]) (cap := []) rfl rfl en81 (by repeat (first | exact TakeL.nil | (apply TakeL.cons; · repeat (first | exact Take1.head | apply Take1.tail)))) (fun w hw => rmix_any x hx 14 18 41 64 false (by omega) (by omega) (by omega) (by omega) w hw.left.here) rfl ?_ -- t32 hailer/hailerref01.mix
        rintro ⟨⟩ -
        refine WL.y (Yl.assign rfl) rfl ?_ -- t6
        refine WL.nil ?_
        refine WC.ret ?_
        repeat (first | (with_reducible refine peelT ?_) | (with_reducible refine peelB ?_) | (with_reducible refine peelTX ?_) | (with_reducible refine peelBX ?_) | (with_reducible refine peelBN ?_) | (with_reducible refine peelBO rfl ?_))
        refine ret1 (.inr rfl) Try.results70 rfl fun w' h => ⟨(), trivial, ?_, h.sub (by repeat (first | exact TakeL.nil | (apply TakeL.cons; · repeat (first | exact Take1.head | apply Take1.tail))))⟩
        unfold fourF
        rcases hbt with rfl | rfl
        all_goals first | (exfalso; omega) | simp [*]
      · refine WC.seq ?_
        refine WC.region ?_
        refine WL.y (Yl.eql rfl rfl) rfl ?_ -- t34
        refine WL.y (Yl.assign rfl) rfl ?_ -- t33
        refine WL.nil ?_
        refine WC.condD rfl (fun g33 => ?_) (fun g33 => ?_)
        · refine WC.seq ?_
          refine WC.region ?_
          refine WL.y (Yl.move rfl) rfl ?_ -- t35
          refine WL.callC (xs := [.tmp 35, _, _, _, _, _]) (cap := []) rfl rfl en81 (by repeat (first | exact TakeL.nil | (apply TakeL.cons; · repeat (first | exact Take1.head | apply Take1.tail)))) (fun w hw => rmix_any x hx 1 8 7 64 true (by omega) (by omega) (by omega) (by omega) w hw.left.here) rfl ?_ -- t36 hailer/hailerref01.mix
          rintro ⟨⟩ -
          refine WL.y (Yl.assign rfl) rfl ?_ -- t6
          refine WL.nil ?_
          refine WC.ret ?_
          repeat (first | (with_reducible refine peelT ?_) | (with_reducible refine peelB ?_) | (with_reducible refine peelTX ?_) | (with_reducible refine peelBX ?_) | (with_reducible refine peelBN ?_) | (with_reducible refine peelBO rfl ?_))
          refine ret1 (.inr rfl) Try.results70 rfl fun w' h => ⟨(), trivial, ?_, h.sub (by repeat (first | exact TakeL.nil | (apply TakeL.cons; · repeat (first | exact Take1.head | apply Take1.tail))))⟩
          unfold fourF
          rcases hbt with rfl | rfl
          all_goals first | (exfalso; omega) | simp [*]
        · refine WC.skip ?_
          refine WC.seq ?_
          refine WC.region ?_
          refine WL.y (Yl.move rfl) rfl ?_ -- t37
          refine WL.callC (xs := [.tmp 37, _, _, _, _, _]) (cap := []) rfl rfl en81 (by repeat (first | exact TakeL.nil | (apply TakeL.cons; · repeat (first | exact Take1.head | apply Take1.tail)))) (fun w hw => rmix_any x hx 19 61 6 64 true (by omega) (by omega) (by omega) (by omega) w hw.left.here) rfl ?_ -- t38 hailer/hailerref01.mix
          rintro ⟨⟩ -
          refine WL.y (Yl.assign rfl) rfl ?_ -- t6
          refine WL.nil ?_
          refine WC.ret ?_
          repeat (first | (with_reducible refine peelT ?_) | (with_reducible refine peelB ?_) | (with_reducible refine peelTX ?_) | (with_reducible refine peelBX ?_) | (with_reducible refine peelBN ?_) | (with_reducible refine peelBO rfl ?_))
          refine ret1 (.inr rfl) Try.results70 rfl fun w' h => ⟨(), trivial, ?_, h.sub (by repeat (first | exact TakeL.nil | (apply TakeL.cons; · repeat (first | exact Take1.head | apply Take1.tail))))⟩
          unfold fourF
          rcases hbt with rfl | rfl
          all_goals first | (exfalso; omega) | simp [*]
end Go.Proofs.Ytfdnnlcfolgegaa
