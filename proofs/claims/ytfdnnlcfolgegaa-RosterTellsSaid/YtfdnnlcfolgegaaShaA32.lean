/- A word, turned; turned thrice; twice, and shifted: the walks, of words of 32 bits. -/
import Derived.Test.YtfdnnlcfolgegaaShaP
namespace Go.Proofs.Ytfdnnlcfolgegaa
open Go Go.RowKit

theorem turn32_any (m : Nat) (mc : List Value) (hz : mc[0 + 2]? = some (.int .i64 4)) (x n : Int) (h0 : 0 ≤ n ∧ n ≤ 32) (w : World) (hm : BlkS w (fpL []) m 121 mc) (hw : OK w (fpL []) [] w) :
    Fn Try.prog 86 [.pointer (some ⟨m, 0, none⟩), .int .u32 x, .int .i64 n] [] w (fun _ : Unit => True) (fun _ => .int .u32 (rot .u32 32 x n)) (fun _ => []) := by
  refine enterF Try.func86 rfl Try.ntmps86 rfl hw ?_
  refine WC.seq ?_
  refine WC.region ?_
  refine WL.y (Yl.assign rfl) rfl ?_ -- t6
  refine WL.nil ?_
  refine WC.seq ?_
  refine WC.drawRead mixed (by kernel_rfl) ?_
  refine WH.y (Yl.move rfl) rfl ?_ -- t7
  refine WH.y (Yl.move rfl) rfl ?_ -- t8
  refine WH.y (Yl.shr rfl rfl ⟨by omega, (by simp [IntKind.bits]; try omega)⟩ rfl) rfl ?_ -- t9
  refine WH.y (Yl.move rfl) rfl ?_ -- t10
  refine WH.y (Yl.move rfl) rfl ?_ -- t11
  refine WH.y (Yl.nilCheck rfl) rfl ?_ -- t12
  refine WH.y (Yl.field fo121_2 rfl) rfl ?_ -- t13
  refine WH.y (Yl.loadS on3 rfl hm hz) rfl ?_ -- t14
  refine WH.y (Yl.mul rfl rfl (IntWalk.i64_in _ (by omega))) rfl ?_ -- t15
  refine WH.say (t := 15) (v' := .int .i64 32) rfl (by rfl) ?_
  refine WH.y (Yl.move rfl) rfl ?_ -- t16
  refine WH.y (Yl.sub rfl rfl (IntWalk.i64_in _ (by omega))) rfl ?_ -- t17
  refine WH.y (Yl.shl rfl rfl ⟨by omega, (by simp [IntKind.bits]; try omega)⟩ rfl) rfl ?_ -- t18
  refine WH.y (Yl.or rfl rfl) rfl ?_ -- t19
  refine WH.y (Yl.assign rfl) rfl ?_ -- t6
  refine WH.nil ?_
  refine WC.ret ?_
  repeat (first | (with_reducible refine peelT ?_) | (with_reducible refine peelB ?_) | (with_reducible refine peelTX ?_) | (with_reducible refine peelBX ?_) | (with_reducible refine peelBN ?_) | (with_reducible refine peelBO rfl ?_))
  exact ret1 (.inr rfl) Try.results86 rfl fun w' h => ⟨(), trivial, rfl, h.sub (by repeat (first | exact TakeL.nil | (apply TakeL.cons; · repeat (first | exact Take1.head | apply Take1.tail))))⟩

theorem big32_any (m : Nat) (mc : List Value) (hz : mc[0 + 2]? = some (.int .i64 4)) (x a b c : Int) (h1 : 0 ≤ a ∧ a ≤ 32) (h2 : 0 ≤ b ∧ b ≤ 32) (h3 : 0 ≤ c ∧ c ≤ 32) (w : World) (hm : BlkS w (fpL []) m 121 mc) (hw : OK w (fpL []) [] w) :
    Fn Try.prog 84 [.pointer (some ⟨m, 0, none⟩), .int .u32 x, .agg (three a b c).toArray] [] w (fun _ : Unit => True) (fun _ => .int .u32 (bigF .u32 32 x a b c)) (fun _ => []) := by
  refine enterF Try.func84 rfl Try.ntmps84 rfl hw ?_
  refine WC.seq ?_
  refine WC.region ?_
  refine WL.to (To.box (cs := three a b c) rfl rfl) rfl ?_ -- t5
  intro b5
  refine WL.y (Yl.assign rfl) rfl ?_ -- t6
  refine WL.nil ?_
  refine WC.seq ?_
  refine WC.drawAny (Hs := [blkR b5 117 (three a b c)]) mixed (by kernel_rfl) ⟨_, (by repeat (first | exact TakeL.nil | (apply TakeL.cons; · repeat (first | exact Take1.head | apply Take1.tail))))⟩ ?_
  refine WD.take 0 rfl (by kernel_rfl) (by kernel_rfl) (by kernel_rfl) rfl rfl (Yl.move rfl) rfl ?_ -- t7
  refine WD.take 1 rfl (by kernel_rfl) (by kernel_rfl) (by kernel_rfl) rfl rfl (Yl.move rfl) rfl ?_ -- t8
  refine WD.take 2 rfl (by kernel_rfl) (by kernel_rfl) (by kernel_rfl) rfl rfl (Yl.indexA (j := 0) un117 sz3 rfl rfl rfl (by omega)) rfl ?_ -- t9
  refine WD.take 3 rfl (by kernel_rfl) (by kernel_rfl) (by kernel_rfl) rfl rfl (Yl.load on3 rfl (by repeat (first | exact Take1.head | apply Take1.tail)) (by rfl)) rfl ?_ -- t10
  refine WD.take 5 rfl (by kernel_rfl) (by kernel_rfl) (by kernel_rfl) rfl rfl (Yl.move rfl) rfl ?_ -- t12
  refine WD.take 6 rfl (by kernel_rfl) (by kernel_rfl) (by kernel_rfl) rfl rfl (Yl.move rfl) rfl ?_ -- t13
  refine WD.take 7 rfl (by kernel_rfl) (by kernel_rfl) (by kernel_rfl) rfl rfl (Yl.indexA (j := 1) un117 sz3 rfl rfl rfl (by omega)) rfl ?_ -- t14
  refine WD.take 8 rfl (by kernel_rfl) (by kernel_rfl) (by kernel_rfl) rfl rfl (Yl.load on3 rfl (by repeat (first | exact Take1.head | apply Take1.tail)) (by rfl)) rfl ?_ -- t15
  refine WD.take 11 rfl (by kernel_rfl) (by kernel_rfl) (by kernel_rfl) rfl rfl (Yl.move rfl) rfl ?_ -- t18
  refine WD.take 12 rfl (by kernel_rfl) (by kernel_rfl) (by kernel_rfl) rfl rfl (Yl.move rfl) rfl ?_ -- t19
  refine WD.take 13 rfl (by kernel_rfl) (by kernel_rfl) (by kernel_rfl) rfl rfl (Yl.indexA (j := 2) un117 sz3 rfl rfl rfl (by omega)) rfl ?_ -- t20
  refine WD.take 14 rfl (by kernel_rfl) (by kernel_rfl) (by kernel_rfl) rfl rfl (Yl.load on3 rfl (by repeat (first | exact Take1.head | apply Take1.tail)) (by rfl)) rfl ?_ -- t21
  refine WD.one 4 (by kernel_rfl) ?_
  refine WO.callC (xs := [.tmp 7, .tmp 8, .tmp 10]) (cap := []) rfl .no rfl rfl en86 (by repeat (first | exact TakeL.nil | (apply TakeL.cons; · repeat (first | exact Take1.head | apply Take1.tail)))) (fun w hw => turn32_any m mc hz x a h1 w (hw.srcBS (A := []) hm) hw.left.here) rfl (fun _ => ⟨_, (by repeat (first | exact TakeL.nil | (apply TakeL.cons; · repeat (first | exact Take1.head | apply Take1.tail))))⟩) ?_ -- t11 (*hailer/sha.machine[uint32]).turn
  rintro ⟨⟩ -
  refine WD.one 9 (by kernel_rfl) ?_
  refine WO.callC (xs := [.tmp 12, .tmp 13, .tmp 15]) (cap := []) rfl .no rfl rfl en86 (by repeat (first | exact TakeL.nil | (apply TakeL.cons; · repeat (first | exact Take1.head | apply Take1.tail)))) (fun w hw => turn32_any m mc hz x b h2 w (hw.srcBS (A := []) hm) hw.left.here) rfl (fun _ => ⟨_, (by repeat (first | exact TakeL.nil | (apply TakeL.cons; · repeat (first | exact Take1.head | apply Take1.tail))))⟩) ?_ -- t16 (*hailer/sha.machine[uint32]).turn
  rintro ⟨⟩ -
  refine WD.take 10 rfl (by kernel_rfl) (by kernel_rfl) (by kernel_rfl) rfl rfl (Yl.xor rfl rfl) rfl ?_ -- t17
  refine WD.one 15 (by kernel_rfl) ?_
  refine WO.callC (xs := [.tmp 18, .tmp 19, .tmp 21]) (cap := []) rfl .no rfl rfl en86 (by repeat (first | exact TakeL.nil | (apply TakeL.cons; · repeat (first | exact Take1.head | apply Take1.tail)))) (fun w hw => turn32_any m mc hz x c h3 w (hw.srcBS (A := []) hm) hw.left.here) rfl (fun _ => ⟨_, (by repeat (first | exact TakeL.nil | (apply TakeL.cons; · repeat (first | exact Take1.head | apply Take1.tail))))⟩) ?_ -- t22 (*hailer/sha.machine[uint32]).turn
  rintro ⟨⟩ -
  refine WD.take 16 rfl (by kernel_rfl) (by kernel_rfl) (by kernel_rfl) rfl rfl (Yl.xor rfl rfl) rfl ?_ -- t23
  refine WD.take 17 rfl (by kernel_rfl) (by kernel_rfl) (by kernel_rfl) rfl rfl (Yl.assign rfl) rfl ?_ -- t6
  refine WD.done (by kernel_rfl) ?_
  refine WC.ret ?_
  repeat (first | (with_reducible refine peelT ?_) | (with_reducible refine peelB ?_) | (with_reducible refine peelTX ?_) | (with_reducible refine peelBX ?_) | (with_reducible refine peelBN ?_) | (with_reducible refine peelBO rfl ?_))
  exact ret1 (.inr rfl) Try.results84 rfl fun w' h => ⟨(), trivial, rfl, h.sub (by repeat (first | exact TakeL.nil | (apply TakeL.cons; · repeat (first | exact Take1.head | apply Take1.tail))))⟩

theorem small32_any (m : Nat) (mc : List Value) (hz : mc[0 + 2]? = some (.int .i64 4)) (x a b c : Int) (h1 : 0 ≤ a ∧ a ≤ 32) (h2 : 0 ≤ b ∧ b ≤ 32) (h3 : 0 ≤ c ∧ c ≤ 32) (w : World) (hm : BlkS w (fpL []) m 121 mc) (hw : OK w (fpL []) [] w) :
    Fn Try.prog 83 [.pointer (some ⟨m, 0, none⟩), .int .u32 x, .agg (three a b c).toArray] [] w (fun _ : Unit => True) (fun _ => .int .u32 (smallF .u32 32 x a b c)) (fun _ => []) := by
  refine enterF Try.func83 rfl Try.ntmps83 rfl hw ?_
  refine WC.seq ?_
  refine WC.region ?_
  refine WL.to (To.box (cs := three a b c) rfl rfl) rfl ?_ -- t5
  intro b5
  refine WL.y (Yl.assign rfl) rfl ?_ -- t6
  refine WL.nil ?_
  refine WC.seq ?_
  refine WC.drawAny (Hs := [blkR b5 117 (three a b c)]) mixed (by kernel_rfl) ⟨_, (by repeat (first | exact TakeL.nil | (apply TakeL.cons; · repeat (first | exact Take1.head | apply Take1.tail))))⟩ ?_
  refine WD.take 0 rfl (by kernel_rfl) (by kernel_rfl) (by kernel_rfl) rfl rfl (Yl.move rfl) rfl ?_ -- t7
  refine WD.take 1 rfl (by kernel_rfl) (by kernel_rfl) (by kernel_rfl) rfl rfl (Yl.move rfl) rfl ?_ -- t8
  refine WD.take 2 rfl (by kernel_rfl) (by kernel_rfl) (by kernel_rfl) rfl rfl (Yl.indexA (j := 0) un117 sz3 rfl rfl rfl (by omega)) rfl ?_ -- t9
  refine WD.take 3 rfl (by kernel_rfl) (by kernel_rfl) (by kernel_rfl) rfl rfl (Yl.load on3 rfl (by repeat (first | exact Take1.head | apply Take1.tail)) (by rfl)) rfl ?_ -- t10
  refine WD.take 5 rfl (by kernel_rfl) (by kernel_rfl) (by kernel_rfl) rfl rfl (Yl.move rfl) rfl ?_ -- t12
  refine WD.take 6 rfl (by kernel_rfl) (by kernel_rfl) (by kernel_rfl) rfl rfl (Yl.move rfl) rfl ?_ -- t13
  refine WD.take 7 rfl (by kernel_rfl) (by kernel_rfl) (by kernel_rfl) rfl rfl (Yl.indexA (j := 1) un117 sz3 rfl rfl rfl (by omega)) rfl ?_ -- t14
  refine WD.take 8 rfl (by kernel_rfl) (by kernel_rfl) (by kernel_rfl) rfl rfl (Yl.load on3 rfl (by repeat (first | exact Take1.head | apply Take1.tail)) (by rfl)) rfl ?_ -- t15
  refine WD.take 11 rfl (by kernel_rfl) (by kernel_rfl) (by kernel_rfl) rfl rfl (Yl.move rfl) rfl ?_ -- t18
  refine WD.take 12 rfl (by kernel_rfl) (by kernel_rfl) (by kernel_rfl) rfl rfl (Yl.indexA (j := 2) un117 sz3 rfl rfl rfl (by omega)) rfl ?_ -- t19
  refine WD.take 13 rfl (by kernel_rfl) (by kernel_rfl) (by kernel_rfl) rfl rfl (Yl.load on3 rfl (by repeat (first | exact Take1.head | apply Take1.tail)) (by rfl)) rfl ?_ -- t20
  refine WD.take 14 rfl (by kernel_rfl) (by kernel_rfl) (by kernel_rfl) rfl rfl (Yl.shr rfl rfl ⟨by omega, (by simp [IntKind.bits]; try omega)⟩ rfl) rfl ?_ -- t21
  refine WD.one 4 (by kernel_rfl) ?_
  refine WO.callC (xs := [.tmp 7, .tmp 8, .tmp 10]) (cap := []) rfl .no rfl rfl en86 (by repeat (first | exact TakeL.nil | (apply TakeL.cons; · repeat (first | exact Take1.head | apply Take1.tail)))) (fun w hw => turn32_any m mc hz x a h1 w (hw.srcBS (A := []) hm) hw.left.here) rfl (fun _ => ⟨_, (by repeat (first | exact TakeL.nil | (apply TakeL.cons; · repeat (first | exact Take1.head | apply Take1.tail))))⟩) ?_ -- t11 (*hailer/sha.machine[uint32]).turn
  rintro ⟨⟩ -
  refine WD.one 9 (by kernel_rfl) ?_
  refine WO.callC (xs := [.tmp 12, .tmp 13, .tmp 15]) (cap := []) rfl .no rfl rfl en86 (by repeat (first | exact TakeL.nil | (apply TakeL.cons; · repeat (first | exact Take1.head | apply Take1.tail)))) (fun w hw => turn32_any m mc hz x b h2 w (hw.srcBS (A := []) hm) hw.left.here) rfl (fun _ => ⟨_, (by repeat (first | exact TakeL.nil | (apply TakeL.cons; · repeat (first | exact Take1.head | apply Take1.tail))))⟩) ?_ -- t16 (*hailer/sha.machine[uint32]).turn
  rintro ⟨⟩ -
  refine WD.take 10 rfl (by kernel_rfl) (by kernel_rfl) (by kernel_rfl) rfl rfl (Yl.xor rfl rfl) rfl ?_ -- t17
  refine WD.take 15 rfl (by kernel_rfl) (by kernel_rfl) (by kernel_rfl) rfl rfl (Yl.xor rfl rfl) rfl ?_ -- t22
  refine WD.take 16 rfl (by kernel_rfl) (by kernel_rfl) (by kernel_rfl) rfl rfl (Yl.assign rfl) rfl ?_ -- t6
  refine WD.done (by kernel_rfl) ?_
  refine WC.ret ?_
  repeat (first | (with_reducible refine peelT ?_) | (with_reducible refine peelB ?_) | (with_reducible refine peelTX ?_) | (with_reducible refine peelBX ?_) | (with_reducible refine peelBN ?_) | (with_reducible refine peelBO rfl ?_))
  exact ret1 (.inr rfl) Try.results83 rfl fun w' h => ⟨(), trivial, rfl, h.sub (by repeat (first | exact TakeL.nil | (apply TakeL.cons; · repeat (first | exact Take1.head | apply Take1.tail))))⟩
end Go.Proofs.Ytfdnnlcfolgegaa
