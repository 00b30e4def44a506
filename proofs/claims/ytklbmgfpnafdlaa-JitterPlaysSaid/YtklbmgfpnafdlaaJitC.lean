/- Products of 128 bits, sums with a carry, sums that stay at the top: the walks. -/
import Derived.Test.YtklbmgfpnafdlaaJitP
import Derived.Test.YtklbmgfpnafdlaaFacts
import Derived.Test.YtklbmgfpnafdlaaLibH
import Derived.Laws.Externs
import Derived.Shelf.Bits.Mul64
namespace Go.Proofs.Ytklbmgfpnafdlaa
open Go Go.RowKit

theorem ext_add64 {a b : Int} (ha : U6 a) (hb : U6 b) (w : World) : (callFunc 71 #[.int .u64 a, .int .u64 b, .int .u64 0]).run Try.prog w = .ok (.value (.tuple #[.int .u64 ((a + b) % 18446744073709551616), .int .u64 ((a + b) / 18446744073709551616)])) w := by
  rw [run_callFunc_extern (e := add64Entry) Try.func71 (by kernel_rfl) (by kernel_rfl) (by kernel_rfl) (by kernel_rfl), run_add64 a b 0 ha.1 hb.1 (by omega) (by omega), Int.add_zero]
  rfl
theorem plus_any (a b : Int) (ha : U6 a) (hb : U6 b) (w : World) (hw : OK w (fpL []) [] w) :
    Fn Try.prog 65 [.int .u64 a, .int .u64 b] [] w (fun _ : Unit => True) (fun _ => .int .u64 (plF a b)) (fun _ => []) := by
  have ha' := ha
  have hb' := hb
  unfold U6 at ha' hb'
  refine enterF Try.func65 rfl Try.ntmps65 rfl hw ?_
  refine WC.seq ?_
  refine WC.region ?_
  refine WL.y (Yl.assign rfl) rfl ?_ -- t4
  refine WL.nil ?_
  refine WC.seq ?_
  refine WC.seq ?_
  refine WC.region ?_
  refine WL.y (Yl.move rfl) rfl ?_ -- t8
  refine WL.y (Yl.move rfl) rfl ?_ -- t9
  refine WL.y (Yl.callExt (xs := [.tmp 8, .tmp 9, .const (.int .u64 0)]) rfl rfl (fun w hw => ext_add64 ha hb w)) rfl ?_
  refine WL.y (Yl.move rfl) rfl ?_ -- t7
  refine WL.y (Yl.extract rfl rfl) rfl ?_ -- t11
  refine WL.y (Yl.extract rfl rfl) rfl ?_ -- t12
  refine WL.y (Yl.assign rfl) rfl ?_ -- t5
  refine WL.y (Yl.assign rfl) rfl ?_ -- t6
  refine WL.nil ?_
  refine WC.seq ?_
  refine WC.region ?_
  refine WL.y (Yl.move rfl) rfl ?_ -- t13
  refine WL.y (Yl.eql rfl rfl) rfl ?_ -- t14
  refine WL.nil ?_
  refine WC.cond rfl (fun g14 => ?_) (fun g14 => ?_)
  · refine WC.seq ?_
    refine WC.region ?_
    refine WL.y (Yl.move rfl) rfl ?_ -- t15
    refine WL.y (Yl.assign rfl) rfl ?_ -- t4
    refine WL.nil ?_
    refine WC.ret ?_
    repeat (first | (with_reducible refine peelT ?_) | (with_reducible refine peelB ?_) | (with_reducible refine peelTX ?_) | (with_reducible refine peelBX ?_) | (with_reducible refine peelBN ?_) | (with_reducible refine peelBO rfl ?_))
    have h0 : (a + b) / 18446744073709551616 = 0 := by simpa using g14
    have hlt : a + b < 18446744073709551616 := by omega
    exact ret1 (.inr rfl) Try.results65 rfl fun w' h => ⟨(), trivial, by unfold plF; rw [if_pos hlt, Int.emod_eq_of_lt (by omega) hlt]; rfl, h.sub (by repeat (first | exact TakeL.nil | (apply TakeL.cons; · repeat (first | exact Take1.head | apply Take1.tail))))⟩
  · refine WC.skip ?_
    refine WC.seq ?_
    refine WC.region ?_
    refine WL.y (Yl.assign rfl) rfl ?_ -- t4
    refine WL.nil ?_
    refine WC.ret ?_
    repeat (first | (with_reducible refine peelT ?_) | (with_reducible refine peelB ?_) | (with_reducible refine peelTX ?_) | (with_reducible refine peelBX ?_) | (with_reducible refine peelBN ?_) | (with_reducible refine peelBO rfl ?_))
    have h0 : ¬ (a + b) / 18446744073709551616 = 0 := by simpa using g14
    have hlt : ¬ a + b < 18446744073709551616 := by omega
    exact ret1 (.inr rfl) Try.results65 rfl fun w' h => ⟨(), trivial, by unfold plF; rw [if_neg hlt], h.sub (by repeat (first | exact TakeL.nil | (apply TakeL.cons; · repeat (first | exact Take1.head | apply Take1.tail))))⟩

theorem mul64_any (x y : Nat) (hx : x < 18446744073709551616) (hy : y < 18446744073709551616) (w : World) (hw : OK w (fpL []) [] w) :
    Fn Try.prog 64 [.int .u64 x, .int .u64 y] [] w (fun _ : Unit => True) (fun _ => .tuple #[.int .u64 ((x * y / 18446744073709551616 : Nat) : Int), .int .u64 ((x * y % 18446744073709551616 : Nat) : Int)]) (fun _ => []) := by
  obtain ⟨bd, bt, bw, hhi⟩ := Lib.mul64_hi x y hx hy
  have ba := Lib.half_mul_le (a := x / 4294967296) (b := y / 4294967296) (by omega) (by omega)
  have bb := Lib.half_mul_le (a := x / 4294967296) (b := y % 4294967296) (by omega) (by omega)
  have bc := Lib.half_mul_le (a := x % 4294967296) (b := y / 4294967296) (by omega) (by omega)
  have hhl : x * y / 18446744073709551616 < 18446744073709551616 := by
    have := Nat.mul_lt_mul'' hx hy
    omega
  have e32 : (2 : Int) ^ (32 : Int).toNat = 4294967296 := rfl
  refine enterF Try.func64 rfl Try.ntmps64 rfl hw ?_
  refine WC.seq ?_
  refine WC.region ?_
  refine WL.y (Yl.assign rfl) rfl ?_ -- t4
  refine WL.y (Yl.assign rfl) rfl ?_ -- t5
  refine WL.nil ?_
  refine WC.seq ?_
  refine WC.region ?_
  refine WL.y (Yl.move rfl) rfl ?_ -- t14
  refine WL.y (Yl.and rfl rfl) rfl ?_ -- t15
  refine WL.say (t := 15) (v' := .int .u64 ((x % 4294967296 : Nat) : Int)) rfl (by rw [Mul64.maskN x hx]) ?_
  refine WL.y (Yl.assign rfl) rfl ?_ -- t6
  refine WL.nil ?_
  refine WC.seq ?_
  refine WC.region ?_
  refine WL.y (Yl.move rfl) rfl ?_ -- t16
  refine WL.y (Yl.shr rfl rfl ⟨by omega, (by simp [IntKind.bits]; try omega)⟩ rfl) rfl ?_ -- t17
  refine WL.say (t := 17) (v' := .int .u64 ((x / 4294967296 : Nat) : Int)) rfl (by rw [e32, Mul64.divN]) ?_
  refine WL.y (Yl.assign rfl) rfl ?_ -- t7
  refine WL.nil ?_
  refine WC.seq ?_
  refine WC.region ?_
  refine WL.y (Yl.move rfl) rfl ?_ -- t18
  refine WL.y (Yl.and rfl rfl) rfl ?_ -- t19
  refine WL.say (t := 19) (v' := .int .u64 ((y % 4294967296 : Nat) : Int)) rfl (by rw [Mul64.maskN y hy]) ?_
  refine WL.y (Yl.assign rfl) rfl ?_ -- t8
  refine WL.nil ?_
  refine WC.seq ?_
  refine WC.region ?_
  refine WL.y (Yl.move rfl) rfl ?_ -- t20
  refine WL.y (Yl.shr rfl rfl ⟨by omega, (by simp [IntKind.bits]; try omega)⟩ rfl) rfl ?_ -- t21
  refine WL.say (t := 21) (v' := .int .u64 ((y / 4294967296 : Nat) : Int)) rfl (by rw [e32, Mul64.divN]) ?_
  refine WL.y (Yl.assign rfl) rfl ?_ -- t9
  refine WL.nil ?_
  refine WC.seq ?_
  refine WC.region ?_
  refine WL.y (Yl.move rfl) rfl ?_ -- t22
  refine WL.y (Yl.move rfl) rfl ?_ -- t23
  refine WL.y (Yl.mul rfl rfl rfl) rfl ?_ -- t24
  refine WL.say (t := 24) (v' := .int .u64 ((x % 4294967296 * (y % 4294967296) : Nat) : Int)) rfl (by rw [Mul64.mulN, Mul64.wrapN _ bd]) ?_
  refine WL.y (Yl.assign rfl) rfl ?_ -- t10
  refine WL.nil ?_
  refine WC.seq ?_
  refine WC.region ?_
  refine WL.y (Yl.move rfl) rfl ?_ -- t25
  refine WL.y (Yl.move rfl) rfl ?_ -- t26
  refine WL.y (Yl.mul rfl rfl rfl) rfl ?_ -- t27
  refine WL.say (t := 27) (v' := .int .u64 ((x / 4294967296 * (y % 4294967296) : Nat) : Int)) rfl (by rw [Mul64.mulN, Mul64.wrapN _ (by omega)]) ?_
  refine WL.y (Yl.move rfl) rfl ?_ -- t28
  refine WL.y (Yl.shr rfl rfl ⟨by omega, (by simp [IntKind.bits]; try omega)⟩ rfl) rfl ?_ -- t29
  refine WL.say (t := 29) (v' := .int .u64 ((x % 4294967296 * (y % 4294967296) / 4294967296 : Nat) : Int)) rfl (by rw [e32, Mul64.divN]) ?_
  refine WL.y (Yl.add rfl rfl rfl) rfl ?_ -- t30
  refine WL.say (t := 30) (v' := .int .u64 ((x / 4294967296 * (y % 4294967296) + x % 4294967296 * (y % 4294967296) / 4294967296 : Nat) : Int)) rfl (by rw [Mul64.addN, Mul64.wrapN _ bt]) ?_
  refine WL.y (Yl.assign rfl) rfl ?_ -- t11
  refine WL.nil ?_
  refine WC.seq ?_
  refine WC.region ?_
  refine WL.y (Yl.move rfl) rfl ?_ -- t31
  refine WL.y (Yl.and rfl rfl) rfl ?_ -- t32
  refine WL.say (t := 32) (v' := .int .u64 (((x / 4294967296 * (y % 4294967296) + x % 4294967296 * (y % 4294967296) / 4294967296) % 4294967296 : Nat) : Int)) rfl (by rw [Mul64.maskN _ bt]) ?_
  refine WL.y (Yl.assign rfl) rfl ?_ -- t12
  refine WL.nil ?_
  refine WC.seq ?_
  refine WC.region ?_
  refine WL.y (Yl.move rfl) rfl ?_ -- t33
  refine WL.y (Yl.shr rfl rfl ⟨by omega, (by simp [IntKind.bits]; try omega)⟩ rfl) rfl ?_ -- t34
  refine WL.say (t := 34) (v' := .int .u64 (((x / 4294967296 * (y % 4294967296) + x % 4294967296 * (y % 4294967296) / 4294967296) / 4294967296 : Nat) : Int)) rfl (by rw [e32, Mul64.divN]) ?_
  refine WL.y (Yl.assign rfl) rfl ?_ -- t13
  refine WL.nil ?_
  refine WC.seq ?_
  refine WC.region ?_
  refine WL.y (Yl.move rfl) rfl ?_ -- t35
  refine WL.y (Yl.move rfl) rfl ?_ -- t36
  refine WL.y (Yl.move rfl) rfl ?_ -- t37
  refine WL.y (Yl.mul rfl rfl rfl) rfl ?_ -- t38
  refine WL.say (t := 38) (v' := .int .u64 ((x % 4294967296 * (y / 4294967296) : Nat) : Int)) rfl (by rw [Mul64.mulN, Mul64.wrapN _ (by omega)]) ?_
  refine WL.y (Yl.add rfl rfl rfl) rfl ?_ -- t39
  refine WL.say (t := 39) (v' := .int .u64 (((x / 4294967296 * (y % 4294967296) + x % 4294967296 * (y % 4294967296) / 4294967296) % 4294967296 + x % 4294967296 * (y / 4294967296) : Nat) : Int)) rfl (by rw [Mul64.addN, Mul64.wrapN _ bw]) ?_
  refine WL.y (Yl.assign rfl) rfl ?_ -- t12
  refine WL.nil ?_
  refine WC.seq ?_
  refine WC.region ?_
  refine WL.y (Yl.move rfl) rfl ?_ -- t40
  refine WL.y (Yl.move rfl) rfl ?_ -- t41
  refine WL.y (Yl.mul rfl rfl rfl) rfl ?_ -- t42
  refine WL.say (t := 42) (v' := .int .u64 ((x / 4294967296 * (y / 4294967296) : Nat) : Int)) rfl (by rw [Mul64.mulN, Mul64.wrapN _ (by omega)]) ?_
  refine WL.y (Yl.move rfl) rfl ?_ -- t43
  refine WL.y (Yl.add rfl rfl rfl) rfl ?_ -- t44
  refine WL.say (t := 44) (v' := .int .u64 ((x / 4294967296 * (y / 4294967296) + (x / 4294967296 * (y % 4294967296) + x % 4294967296 * (y % 4294967296) / 4294967296) / 4294967296 : Nat) : Int)) rfl (by rw [Mul64.addN, Mul64.wrapN _ (by omega)]) ?_
  refine WL.y (Yl.move rfl) rfl ?_ -- t45
  refine WL.y (Yl.shr rfl rfl ⟨by omega, (by simp [IntKind.bits]; try omega)⟩ rfl) rfl ?_ -- t46
  refine WL.say (t := 46) (v' := .int .u64 ((((x / 4294967296 * (y % 4294967296) + x % 4294967296 * (y % 4294967296) / 4294967296) % 4294967296 + x % 4294967296 * (y / 4294967296)) / 4294967296 : Nat) : Int)) rfl (by rw [e32, Mul64.divN]) ?_
  refine WL.y (Yl.add rfl rfl rfl) rfl ?_ -- t47
  refine WL.say (t := 47) (v' := .int .u64 ((x * y / 18446744073709551616 : Nat) : Int)) rfl (by rw [Mul64.addN, hhi, Mul64.wrapN _ hhl]) ?_
  refine WL.y (Yl.assign rfl) rfl ?_ -- t4
  refine WL.nil ?_
  refine WC.seq ?_
  refine WC.region ?_
  refine WL.y (Yl.move rfl) rfl ?_ -- t48
  refine WL.y (Yl.move rfl) rfl ?_ -- t49
  refine WL.y (Yl.mul rfl rfl rfl) rfl ?_ -- t50
  refine WL.say (t := 50) (v' := .int .u64 ((x * y % 18446744073709551616 : Nat) : Int)) rfl (by rw [Mul64.mulN, Mul64.wrapM]) ?_
  refine WL.y (Yl.assign rfl) rfl ?_ -- t5
  refine WL.nil ?_
  refine WC.ret ?_
  repeat (first | (with_reducible refine peelT ?_) | (with_reducible refine peelB ?_) | (with_reducible refine peelTX ?_) | (with_reducible refine peelBX ?_) | (with_reducible refine peelBN ?_) | (with_reducible refine peelBO rfl ?_))
  exact ret2 (.inr rfl) Try.results64 rfl rfl fun w' h => ⟨(), trivial, rfl, h.sub (by repeat (first | exact TakeL.nil | (apply TakeL.cons; · repeat (first | exact Take1.head | apply Take1.tail))))⟩
theorem mulI_any (x y : Int) (hx : U6 x) (hy : U6 y) (w : World) (hw : OK w (fpL []) [] w) :
    Fn Try.prog 64 [.int .u64 x, .int .u64 y] [] w (fun _ : Unit => True) (fun _ => .tuple #[.int .u64 (x * y / 18446744073709551616), .int .u64 (x * y % 18446744073709551616)]) (fun _ => []) := by
  obtain ⟨a, rfl⟩ := Int.eq_ofNat_of_zero_le hx.1
  obtain ⟨b, rfl⟩ := Int.eq_ofNat_of_zero_le hy.1
  have h1 := hx.2
  have h2 := hy.2
  have := mul64_any a b (by omega) (by omega) w hw
  rw [← Int.natCast_mul]
  exact this
theorem ret4 {c : Cx} {fn : Func} {R : Ending → World → Prop} {e : Exit} {env : Env} {H : List Res} {t u s r : Nat} {v x y z : Value} (he : e = .normal ∨ e = .ret) (hr : fn.results = #[.tmp t, .tmp u, .tmp s, .tmp r]) (hv : Env.get env t = some v) (hx : Env.get env u = some x) (hy : Env.get env s = some y) (hz : Env.get env r = some z) (h : ∀ w, OK c.w0 c.S H w → R (.returned (.tuple #[v, x, y, z])) w) : retS c fn R e env [] H := by
  refine retG he (fun tmps w ht hw => ?_) h
  simp [results, hr, ht t _ hv, ht u _ hx, ht s _ hy, ht r _ hz]
end Go.Proofs.Ytklbmgfpnafdlaa

namespace Go.Proofs.Ytklbmgfpnafdlaa
open Go Go.RowKit
theorem en64 : ∀ args w, (callFunc 64 args).run Try.prog w = .ok (.enter 64 args) w := enters Try.func64 (by kernel_rfl) rfl
def vI (v : Value) : Value := v
def jb (T : TypeId) (b m : Nat) (B : Jb) : List Res := [blkR b T (B.cells m), mapR (Value.int .u64) vI m B.m]
theorem U6.wf {x : Int} (h : U6 x) : (Lit.int .u64 x).wf = true := by
  rw [Lit.wf_int_iff]
  have e1 : IntKind.u64.min = 0 := by decide
  have e2 : IntKind.u64.max = 18446744073709551615 := by decide
  have h1 := h.1
  have h2 := h.2
  rw [e1, e2]
  omega
theorem keyU : KeyT Try.prog 22 U6 (Value.int .u64) :=
  have k := KeyT.int (P := Try.prog) (k := 22) (q := .u64) un22
  ⟨k.keyed, fun x hx => k.key x hx.wf, fun x y hx hy => k.inj x y hx.wf hy.wf⟩
theorem mapI (o : Option Value) : o.map vI = o := by cases o <;> rfl
theorem due_split {B : Jb} (ctr : Int) (h : U6 B.s) : (0 < wr (ctr - B.fi) * B.s / 18446744073709551616) = (18446744073709551616 ≤ wr (ctr - B.fi) * B.s) := by
  have : 0 ≤ wr (ctr - B.fi) * B.s := Int.mul_nonneg (wr_u _).1 h.1
  apply propext
  omega
theorem nilM {B : Jb} : decide ((B.m.length : Int) = 0) = B.m.isEmpty := by cases B.m <;> simp; omega
end Go.Proofs.Ytklbmgfpnafdlaa
