/- Numbers of 32 and 16 bits, sized bytes: the walks. -/
import Derived.Test.YtfdnnlcfolgegaaWireB
import Derived.Test.YtfdnnlcfolgegaaLibY
namespace Go.Proofs.Ytfdnnlcfolgegaa
open Go Go.RowKit
theorem number16_any (n : Int) (many : Nat) (hn : 0 ≤ n ∧ n < 65536) (hm : many ≤ 8) (w : World) (hw : OK w (fpL []) [] w) :
    Fn Try.prog 76 [.int .u16 n, .int .i64 (many : Int)] [] w (fun _ : Option Addr × Nat => True) (fun y => .slice y.1 many y.2) (fun y => [ownR (.slice y.1 many y.2) 5 1 many (ints .u8 (be n many))]) := by
  refine enterF Try.func76 rfl Try.ntmps76 rfl hw ?_
  refine WC.seq ?_
  refine WC.region ?_
  refine WL.y (Yl.assign rfl) rfl ?_ -- t4
  refine WL.nil ?_
  refine WC.seq ?_
  refine WC.region ?_
  refine WL.y (Yl.assign rfl) rfl ?_ -- t5
  refine WL.nil ?_
  refine WC.seq ?_
  refine WC.seq ?_
  refine WC.region ?_
  refine WL.y (Yl.move rfl) rfl ?_ -- t7
  refine WL.y (Yl.sub rfl rfl (IntWalk.i64_in _ (by omega))) rfl ?_ -- t8
  refine WL.say (t := 8) (v' := .int .i64 ((many : Int) - 1 - ((0 : Nat) : Int))) rfl (by (refine congrArg _ ?_; omega)) ?_
  refine WL.y (Yl.assign rfl) rfl ?_ -- t6
  refine WL.nil ?_
  refine WC.block ?_
  refine WC.view (fun w h => h.addNil 5 1) ?_
  refine WC.loop (α := Nat × (Option Addr × Nat)) (fun p => [(0, .int .u16 n), (5, .slice p.2.1 p.1 p.2.2), (6, .int .i64 ((many : Int) - 1 - (p.1 : Int)))]) (fun p => [ownR (.slice p.2.1 p.1 p.2.2) 5 1 p.1 (ints .u8 (beK n many p.1))]) (fun p => p.1 ≤ many) (fun p => many - p.1) (0, none, 0) (Nat.zero_le _) ⟨(by repeat (first | exact Sub.nil | refine Sub.cons rfl ?_)), _, (by repeat (first | exact TakeL.nil | (apply TakeL.cons; · repeat (first | exact Take1.head | apply Take1.tail))))⟩ ?_
  rintro ⟨k, ao, c⟩ hk
  dsimp only at hk ⊢
  have hp : (0 : Int) ≤ 2 ^ (8 * (many - 1 - k)) := Int.pow_nonneg (by decide)
  refine WC.seq ?_
  refine WC.seq ?_
  refine WC.region ?_
  refine WL.y (Yl.move rfl) rfl ?_ -- t9
  refine WL.y (Yl.geq rfl rfl) rfl ?_ -- t10
  refine WL.nil ?_
  refine WC.condD rfl (fun g10 => ?_) (fun g10 => ?_)
  · refine WC.skip ?_
    refine WC.seq ?_
    refine WC.block ?_
    refine WC.region ?_
    refine WL.y (Yl.move rfl) rfl ?_ -- t13
    refine WL.y (Yl.move rfl) rfl ?_ -- t14
    refine WL.y (Yl.conv un114 un24 rfl (u64_in _ (by omega))) rfl ?_ -- t15
    refine WL.y (Yl.move rfl) rfl ?_ -- t16
    refine WL.y (Yl.mul rfl rfl (IntWalk.i64_in _ (by omega))) rfl ?_ -- t17
    refine WL.y (Yl.shr rfl rfl ⟨by omega, (by simp [IntKind.bits]; try omega)⟩ rfl) rfl ?_ -- t18
    refine WL.y (Yl.conv un24 un5 rfl (be_byte n many k (by omega) hm)) rfl ?_ -- t19
    refine WL.to (To.buildSlice (vs := [.int .u8 (n / 2 ^ (8 * (many - 1 - k)) % 256)]) un53 zs5 rfl rfl (by simp [Value.cells]) (by decide) (by decide)) rfl ?_ -- t20
    intro b20
    refine WL.to (To.append sl53 rfl rfl (by repeat (first | exact Take1.head | apply Take1.tail)) (Reads.of (RdOf.blk (cs := [.int .u8 (n / 2 ^ (8 * (many - 1 - k)) % 256)]) (cs' := ints .u8 [n / 2 ^ (8 * (many - 1 - k)) % 256]) (Nat.le_refl _) (by unfold maxLen; omega) (by simp) rfl) (by repeat (first | exact Take1.head | apply Take1.tail))) (ints_one _ _) rfl (by rw [ints_append, ← beK_succ]) (by unfold maxLen; omega) (by omega)) rfl ?_ -- t21
    rintro ⟨⟨ao21, c21⟩, hc21⟩
    dsimp only at hc21 ⊢
    refine WL.y (Yl.assign rfl) rfl ?_ -- t5
    refine WL.nil ?_
    refine WC.region ?_
    refine WL.y (Yl.move rfl) rfl ?_ -- t11
    refine WL.y (Yl.sub rfl rfl (IntWalk.i64_in _ (by omega))) rfl ?_ -- t12
    refine WL.say (t := 12) (v' := .int .i64 ((many : Int) - 1 - ((k + 1 : Nat) : Int))) rfl (by (refine congrArg _ ?_; omega)) ?_
    refine WL.y (Yl.assign rfl) rfl ?_ -- t6
    refine WL.nil ?_
    exact ⟨rfl, (k + 1, ao21, c21), by dsimp only; omega, by dsimp only; omega, (by repeat (first | exact Sub.nil | refine Sub.cons rfl ?_)), _, (by repeat (first | exact TakeL.nil | (apply TakeL.cons; · repeat (first | exact Take1.head | apply Take1.tail))))⟩
  · refine WC.exit ?_
    refine WC.seq ?_
    refine WC.region ?_
    refine WL.y (Yl.move rfl) rfl ?_ -- t22
    refine WL.y (Yl.assign rfl) rfl ?_ -- t4
    refine WL.nil ?_
    refine WC.ret ?_
    repeat (first | (with_reducible refine peelT ?_) | (with_reducible refine peelB ?_) | (with_reducible refine peelTX ?_) | (with_reducible refine peelBX ?_) | (with_reducible refine peelBN ?_) | (with_reducible refine peelBO rfl ?_))
    have hkm : k = many := by omega
    subst hkm
    exact ret1 (.inr rfl) Try.results76 rfl fun w' h => ⟨(ao, c), trivial, rfl, h.sub (by repeat (first | exact TakeL.nil | (apply TakeL.cons; · repeat (first | exact Take1.head | apply Take1.tail))))⟩

def b4 (l : List Int) : List (List Int) := l.map (be · 4)

/-- How many there are, put. -/
def mny (lim : Int) (s : List Int × Bool) (most : Int) (n : Nat) : List Int × Bool := pt lim (s.1, s.2 || decide ((if (65535 : Int) < most then 65535 else most) < (n : Int))) (be (IntKind.u16.wrap (n : Int)) 2)
theorem pt_true (lim : Int) (bs xs : List Int) : pt lim (bs, true) xs = (bs, true) := pt_no (by simp)
theorem u16_rng (n : Int) : 0 ≤ IntKind.u16.wrap n ∧ IntKind.u16.wrap n < 65536 := by
  have e : IntKind.u16.wrap n = n % 65536 := by simp [IntKind.wrap, IntKind.bits, IntKind.signed]
  omega

theorem outMany_any (b : Nat) (x : Option Addr × Nat) (lim : Int) (bs : List Int) (wr : Bool) (most : Int) (n : Nat) (hlo : -9223372036854775808 ≤ lim ∧ lim ≤ 9223372036854775807) (hf : Fit lim (bs, wr)) (hsz : bs.length + 2 ≤ 140737488355328) (w : World)
    (hw : OK w (fpL (oR b x lim bs wr)) (oR b x lim bs wr) w) :
    Fn Try.prog 62 [.pointer (some ⟨b, 0, none⟩), .int .i64 most, .int .i64 (n : Int)] (oR b x lim bs wr) w (fun _ : Option Addr × Nat => True) (fun _ => .bool (!(mny lim (bs, wr) most n).2)) (fun y => oR b y lim (mny lim (bs, wr) most n).1 (mny lim (bs, wr) most n).2) := by
  refine enterF Try.func62 rfl Try.ntmps62 rfl hw ?_
  refine WC.seq ?_
  refine WC.region ?_
  refine WL.y (Yl.assign rfl) rfl ?_ -- t6
  refine WL.nil ?_
  refine WC.seq ?_
  refine WC.seq ?_
  refine WC.region ?_
  refine WL.y (Yl.move rfl) rfl ?_ -- t7
  refine WL.y (Yl.nilEq un76 rfl rfl) rfl ?_ -- t8
  refine WL.know (t := 8) (b' := false) rfl (by first | rfl | (simp; done) | (simp; omega)) ?_
  refine WL.nil ?_
  refine WC.condF rfl (by first | rfl | (simp; done) | (simp; omega)) ?_
  refine WC.skip ?_
  refine WC.midK [] (oR b x lim bs (wr || decide ((if (65535 : Int) < most then 65535 else most) < (n : Int)))) ?_ ?_
  · refine WC.region ?_
    refine WL.y (Yl.move rfl) rfl ?_ -- t9
    refine WL.y (Yl.move rfl) rfl ?_ -- t10
    refine WL.y (Yl.nilCheck rfl) rfl ?_ -- t11
    refine WL.y (Yl.field fo95_2 rfl) rfl ?_ -- t12
    refine WL.y (Yl.load on4 rfl (by repeat (first | exact Take1.head | apply Take1.tail)) (by rfl)) rfl ?_ -- t13
    refine WL.y (Yl.move rfl) rfl ?_ -- t14
    refine WL.both (t := 14) rfl (fun g14 => ?_) (fun g14 => ?_)
    · refine WL.off rfl rfl rfl rfl ?_ -- t15
      refine WL.off rfl rfl rfl rfl ?_ -- t16
      refine WL.off rfl rfl rfl rfl ?_ -- t17
      refine WL.off rfl rfl rfl rfl ?_ -- t18
      refine WL.y (Yl.pickT rfl rfl) rfl ?_ -- t19
      refine WL.say (t := 19) (v' := .bool (wr || decide ((if (65535 : Int) < most then 65535 else most) < (n : Int)))) rfl (by first | (rw [g14]; rfl) | (rw [g14, Bool.false_or])) ?_
      refine WL.y (Yl.nilCheck rfl) rfl ?_ -- t20
      refine WL.y (Yl.field fo95_2 rfl) rfl ?_ -- t21
      refine WL.sto (Sto.one sz4 rfl rfl (by repeat (first | exact Take1.head | apply Take1.tail)) rfl (by rfl) (by rfl)) (fun _ h => nomatch h) ?_ -- st 1
      refine WL.nil ?_
      exact ⟨rfl, (by repeat (first | exact Sub.nil | refine Sub.cons rfl ?_)), (by repeat (first | exact Sub.nil | refine Sub.cons rfl ?_)), _, (by repeat (first | exact TakeL.nil | (apply TakeL.cons; · repeat (first | exact Take1.head | apply Take1.tail))))⟩
    · refine WL.on rfl rfl ?_
      refine WL.y (Yl.move rfl) rfl ?_ -- t15
      refine WL.on rfl rfl ?_
      refine WL.y (Yl.move rfl) rfl ?_ -- t16
      refine WL.on rfl rfl ?_
      refine WL.y (Yl.min2 rfl rfl) rfl ?_ -- t17
      refine WL.on rfl rfl ?_
      refine WL.y (Yl.gtr rfl rfl) rfl ?_ -- t18
      refine WL.y (Yl.pickF rfl rfl) rfl ?_ -- t19
      refine WL.say (t := 19) (v' := .bool (wr || decide ((if (65535 : Int) < most then 65535 else most) < (n : Int)))) rfl (by first | (rw [g14]; rfl) | (rw [g14, Bool.false_or])) ?_
      refine WL.y (Yl.nilCheck rfl) rfl ?_ -- t20
      refine WL.y (Yl.field fo95_2 rfl) rfl ?_ -- t21
      refine WL.sto (Sto.one sz4 rfl rfl (by repeat (first | exact Take1.head | apply Take1.tail)) rfl (by rfl) (by rfl)) (fun _ h => nomatch h) ?_ -- st 1
      refine WL.nil ?_
      exact ⟨rfl, (by repeat (first | exact Sub.nil | refine Sub.cons rfl ?_)), (by repeat (first | exact Sub.nil | refine Sub.cons rfl ?_)), _, (by repeat (first | exact TakeL.nil | (apply TakeL.cons; · repeat (first | exact Take1.head | apply Take1.tail))))⟩
  · refine WC.seq ?_
    refine WC.region ?_
    refine WL.y (Yl.move rfl) rfl ?_ -- t22
    refine WL.y (Yl.move rfl) rfl ?_ -- t23
    refine WL.y (Yl.conv un3 un114 rfl rfl) rfl ?_ -- t24
    refine WL.callC (xs := [.tmp 24, _]) (cap := []) rfl rfl en76 (by repeat (first | exact TakeL.nil | (apply TakeL.cons; · repeat (first | exact Take1.head | apply Take1.tail)))) (fun w hw => number16_any _ 2 (u16_rng _) (by omega) w hw.left.here) rfl ?_ -- t25 hailer/wire.number[uint16]
    intro z _
    refine WL.callC (xs := [.tmp 22, .tmp 25]) (cap := []) rfl rfl en60 (by repeat (first | exact TakeL.nil | (apply TakeL.cons; · repeat (first | exact Take1.head | apply Take1.tail)))) (fun w hw => put_any b x lim bs (wr || decide ((if (65535 : Int) < most then 65535 else most) < (n : Int))) (be (IntKind.u16.wrap (n : Int)) 2) (.slice z.1 2 z.2) hlo hf (by rw [be_len]; omega) w (hw.src RdOf.own (by repeat (first | exact Take1.head | apply Take1.tail))) hw.left.here) rfl ?_ -- t26 (*hailer/wire.Out).put
    intro y2 _
    refine WL.nil ?_
    refine WC.seq ?_
    refine WC.region ?_
    refine WL.y (Yl.move rfl) rfl ?_ -- t27
    refine WL.y (Yl.nilCheck rfl) rfl ?_ -- t28
    refine WL.y (Yl.field fo95_2 rfl) rfl ?_ -- t29
    refine WL.y (Yl.load on4 rfl (by repeat (first | exact Take1.head | apply Take1.tail)) (by rfl)) rfl ?_ -- t30
    refine WL.y (Yl.not rfl) rfl ?_ -- t31
    refine WL.y (Yl.assign rfl) rfl ?_ -- t6
    refine WL.nil ?_
    refine WC.ret ?_
    repeat (first | (with_reducible refine peelT ?_) | (with_reducible refine peelB ?_) | (with_reducible refine peelTX ?_) | (with_reducible refine peelBX ?_) | (with_reducible refine peelBN ?_) | (with_reducible refine peelBO rfl ?_))
    exact ret1 (.inr rfl) Try.results62 rfl fun w' h => ⟨y2, trivial, rfl, h.sub (by repeat (first | exact TakeL.nil | (apply TakeL.cons; · repeat (first | exact Take1.head | apply Take1.tail))))⟩

/-- How many there are, taken: whether it is wrong then. -/
def mnW (bs : List Int) (wr : Bool) (most : Int) : Bool := tkW 2 bs wr || decide (most < val (tkR 2 bs wr))
theorem val2 {bs : List Int} (h : Bytes bs) (wr : Bool) : 0 ≤ val (tkR 2 bs wr) ∧ val (tkR 2 bs wr) < 65536 := by
  have hv := val_range (h.tkR 2 wr)
  have hT := tkR_len 2 bs wr
  have : (tkR 2 bs wr).length = 0 ∨ (tkR 2 bs wr).length = 1 ∨ (tkR 2 bs wr).length = 2 := by omega
  rcases this with h | h | h <;> rw [h] at hv <;> simp at hv <;> omega

/-- Sized bytes, taken: how many. -/
def szK (bs : List Int) (wr : Bool) : Nat := (val (tkR 2 bs wr)).toNat
theorem tkR_true (k : Nat) (bs : List Int) : tkR k bs true = [] := by simp [tkR, tkOk]
theorem tkB_true (k : Nat) (bs : List Int) : tkB k bs true = bs := by simp [tkB, tkOk]
theorem tkW_true (k : Nat) (bs : List Int) : tkW k bs true = true := by simp [tkW, tkOk]
end Go.Proofs.Ytfdnnlcfolgegaa
