/- Records compared: the walks. -/
import Derived.Test.YtmcdbjbkkejbbaaGreatMerA
namespace Go.Proofs.YtmcdbjbkkejbbaaGreat
open Go Go.RowKit

theorem nanI_any (x : Int) (w : World) (hw : OK w (fpL []) [] w) : Fn Tryz.prog 69 [.int .i64 x] [] w (fun _ : Unit => True) (fun _ => .bool false) (fun _ => []) := by
  refine enterF Tryz.func69 rfl Tryz.ntmps69 rfl hw ?_
  refine WC.seq ?_
  refine WC.region ?_
  refine WL.y (Yl.assign rfl) rfl ?_ -- t2
  refine WL.nil ?_
  refine WC.seq ?_
  refine WC.region ?_
  refine WL.y (Yl.move rfl) rfl ?_ -- t3
  refine WL.y (Yl.move rfl) rfl ?_ -- t4
  refine WL.y (Yl.neq rfl rfl) rfl ?_ -- t5
  refine WL.know (t := 5) (b' := false) rfl (by simp) ?_
  refine WL.y (Yl.assign rfl) rfl ?_ -- t2
  refine WL.nil ?_
  refine WC.ret ?_
  repeat (first | (with_reducible refine peelT ?_) | (with_reducible refine peelB ?_) | (with_reducible refine peelTX ?_) | (with_reducible refine peelBX ?_) | (with_reducible refine peelBN ?_) | (with_reducible refine peelBO rfl ?_))
  exact ret1 (.inr rfl) Tryz.results69 rfl fun w' h => ⟨(), trivial, rfl, h.sub (by repeat (first | exact TakeL.nil | (apply TakeL.cons; · repeat (first | exact Take1.head | apply Take1.tail))))⟩
theorem nanU_any (x : Int) (w : World) (hw : OK w (fpL []) [] w) : Fn Tryz.prog 70 [.int .u64 x] [] w (fun _ : Unit => True) (fun _ => .bool false) (fun _ => []) := by
  refine enterF Tryz.func70 rfl Tryz.ntmps70 rfl hw ?_
  refine WC.seq ?_
  refine WC.region ?_
  refine WL.y (Yl.assign rfl) rfl ?_ -- t2
  refine WL.nil ?_
  refine WC.seq ?_
  refine WC.region ?_
  refine WL.y (Yl.move rfl) rfl ?_ -- t3
  refine WL.y (Yl.move rfl) rfl ?_ -- t4
  refine WL.y (Yl.neq rfl rfl) rfl ?_ -- t5
  refine WL.know (t := 5) (b' := false) rfl (by simp) ?_
  refine WL.y (Yl.assign rfl) rfl ?_ -- t2
  refine WL.nil ?_
  refine WC.ret ?_
  repeat (first | (with_reducible refine peelT ?_) | (with_reducible refine peelB ?_) | (with_reducible refine peelTX ?_) | (with_reducible refine peelBX ?_) | (with_reducible refine peelBN ?_) | (with_reducible refine peelBO rfl ?_))
  exact ret1 (.inr rfl) Tryz.results70 rfl fun w' h => ⟨(), trivial, rfl, h.sub (by repeat (first | exact TakeL.nil | (apply TakeL.cons; · repeat (first | exact Take1.head | apply Take1.tail))))⟩
theorem cmpInt_any (x y : Int) (w : World) (hw : OK w (fpL []) [] w) : Fn Tryz.prog 42 [.int .i64 x, .int .i64 y] [] w (fun _ : Unit => True) (fun _ => .int .i64 (cmpI x y)) (fun _ => []) := by
  refine enterF Tryz.func42 rfl Tryz.ntmps42 rfl hw ?_
  refine WC.seq ?_
  refine WC.region ?_
  refine WL.y (Yl.assign rfl) rfl ?_ -- t4
  refine WL.nil ?_
  refine WC.seq ?_
  refine WC.region ?_
  refine WL.y (Yl.move rfl) rfl ?_ -- t7
  refine WL.callC (xs := [.tmp 7]) (cap := []) rfl rfl en69 (by repeat (first | exact TakeL.nil | (apply TakeL.cons; · repeat (first | exact Take1.head | apply Take1.tail)))) (fun w hw => nanI_any x w hw.left.here) rfl ?_ -- t8 cmp.isNaN[int]
  rintro ⟨⟩ -
  refine WL.y (Yl.assign rfl) rfl ?_ -- t5
  refine WL.nil ?_
  refine WC.seq ?_
  refine WC.region ?_
  refine WL.y (Yl.move rfl) rfl ?_ -- t9
  refine WL.callC (xs := [.tmp 9]) (cap := []) rfl rfl en69 (by repeat (first | exact TakeL.nil | (apply TakeL.cons; · repeat (first | exact Take1.head | apply Take1.tail)))) (fun w hw => nanI_any y w hw.left.here) rfl ?_ -- t10 cmp.isNaN[int]
  rintro ⟨⟩ -
  refine WL.y (Yl.assign rfl) rfl ?_ -- t6
  refine WL.nil ?_
  refine WC.seq ?_
  refine WC.seq ?_
  refine WC.region ?_
  refine WL.y (Yl.move rfl) rfl ?_ -- t11
  refine WL.nil ?_
  refine WC.condF rfl (by first | rfl | (simp; done) | (simp; omega)) ?_
  refine WC.skip ?_
  refine WC.seq ?_
  refine WC.seq ?_
  refine WC.region ?_
  refine WL.y (Yl.move rfl) rfl ?_ -- t13
  refine WL.nil ?_
  refine WC.condF rfl (by first | rfl | (simp; done) | (simp; omega)) ?_
  refine WC.skip ?_
  refine WC.seq ?_
  refine WC.seq ?_
  refine WC.region ?_
  refine WL.y (Yl.move rfl) rfl ?_ -- t14
  refine WL.y (Yl.move rfl) rfl ?_ -- t15
  refine WL.y (Yl.lss rfl rfl) rfl ?_ -- t16
  refine WL.nil ?_
  refine WC.condD rfl (fun g16 => ?_) (fun g16 => ?_)
  · refine WC.seq ?_
    refine WC.region ?_
    refine WL.y (Yl.assign rfl) rfl ?_ -- t4
    refine WL.nil ?_
    refine WC.ret ?_
    repeat (first | (with_reducible refine peelT ?_) | (with_reducible refine peelB ?_) | (with_reducible refine peelTX ?_) | (with_reducible refine peelBX ?_) | (with_reducible refine peelBN ?_) | (with_reducible refine peelBO rfl ?_))
    exact ret1 (.inr rfl) Tryz.results42 rfl fun w' h => ⟨(), trivial, by unfold cmpI; rw [if_pos g16], h.sub (by repeat (first | exact TakeL.nil | (apply TakeL.cons; · repeat (first | exact Take1.head | apply Take1.tail))))⟩
  · refine WC.skip ?_
    refine WC.seq ?_
    refine WC.seq ?_
    refine WC.region ?_
    refine WL.y (Yl.move rfl) rfl ?_ -- t17
    refine WL.y (Yl.move rfl) rfl ?_ -- t18
    refine WL.y (Yl.gtr rfl rfl) rfl ?_ -- t19
    refine WL.nil ?_
    refine WC.condD rfl (fun g19 => ?_) (fun g19 => ?_)
    · refine WC.seq ?_
      refine WC.region ?_
      refine WL.y (Yl.assign rfl) rfl ?_ -- t4
      refine WL.nil ?_
      refine WC.ret ?_
      repeat (first | (with_reducible refine peelT ?_) | (with_reducible refine peelB ?_) | (with_reducible refine peelTX ?_) | (with_reducible refine peelBX ?_) | (with_reducible refine peelBN ?_) | (with_reducible refine peelBO rfl ?_))
      exact ret1 (.inr rfl) Tryz.results42 rfl fun w' h => ⟨(), trivial, by unfold cmpI; rw [if_neg g16, if_pos g19], h.sub (by repeat (first | exact TakeL.nil | (apply TakeL.cons; · repeat (first | exact Take1.head | apply Take1.tail))))⟩
    · refine WC.skip ?_
      refine WC.seq ?_
      refine WC.region ?_
      refine WL.y (Yl.assign rfl) rfl ?_ -- t4
      refine WL.nil ?_
      refine WC.ret ?_
      repeat (first | (with_reducible refine peelT ?_) | (with_reducible refine peelB ?_) | (with_reducible refine peelTX ?_) | (with_reducible refine peelBX ?_) | (with_reducible refine peelBN ?_) | (with_reducible refine peelBO rfl ?_))
      exact ret1 (.inr rfl) Tryz.results42 rfl fun w' h => ⟨(), trivial, by unfold cmpI; rw [if_neg g16, if_neg g19], h.sub (by repeat (first | exact TakeL.nil | (apply TakeL.cons; · repeat (first | exact Take1.head | apply Take1.tail))))⟩
theorem cmpU_any (x y : Int) (w : World) (hw : OK w (fpL []) [] w) : Fn Tryz.prog 43 [.int .u64 x, .int .u64 y] [] w (fun _ : Unit => True) (fun _ => .int .i64 (cmpI x y)) (fun _ => []) := by
  refine enterF Tryz.func43 rfl Tryz.ntmps43 rfl hw ?_
  refine WC.seq ?_
  refine WC.region ?_
  refine WL.y (Yl.assign rfl) rfl ?_ -- t4
  refine WL.nil ?_
  refine WC.seq ?_
  refine WC.region ?_
  refine WL.y (Yl.move rfl) rfl ?_ -- t7
  refine WL.callC (xs := [.tmp 7]) (cap := []) rfl rfl en70 (by repeat (first | exact TakeL.nil | (apply TakeL.cons; · repeat (first | exact Take1.head | apply Take1.tail)))) (fun w hw => nanU_any x w hw.left.here) rfl ?_ -- t8 cmp.isNaN[uint64]
  rintro ⟨⟩ -
  refine WL.y (Yl.assign rfl) rfl ?_ -- t5
  refine WL.nil ?_
  refine WC.seq ?_
  refine WC.region ?_
  refine WL.y (Yl.move rfl) rfl ?_ -- t9
  refine WL.callC (xs := [.tmp 9]) (cap := []) rfl rfl en70 (by repeat (first | exact TakeL.nil | (apply TakeL.cons; · repeat (first | exact Take1.head | apply Take1.tail)))) (fun w hw => nanU_any y w hw.left.here) rfl ?_ -- t10 cmp.isNaN[uint64]
  rintro ⟨⟩ -
  refine WL.y (Yl.assign rfl) rfl ?_ -- t6
  refine WL.nil ?_
  refine WC.seq ?_
  refine WC.seq ?_
  refine WC.region ?_
  refine WL.y (Yl.move rfl) rfl ?_ -- t11
  refine WL.nil ?_
  refine WC.condF rfl (by first | rfl | (simp; done) | (simp; omega)) ?_
  refine WC.skip ?_
  refine WC.seq ?_
  refine WC.seq ?_
  refine WC.region ?_
  refine WL.y (Yl.move rfl) rfl ?_ -- t13
  refine WL.nil ?_
  refine WC.condF rfl (by first | rfl | (simp; done) | (simp; omega)) ?_
  refine WC.skip ?_
  refine WC.seq ?_
  refine WC.seq ?_
  refine WC.region ?_
  refine WL.y (Yl.move rfl) rfl ?_ -- t14
  refine WL.y (Yl.move rfl) rfl ?_ -- t15
  refine WL.y (Yl.lss rfl rfl) rfl ?_ -- t16
  refine WL.nil ?_
  refine WC.condD rfl (fun g16 => ?_) (fun g16 => ?_)
  · refine WC.seq ?_
    refine WC.region ?_
    refine WL.y (Yl.assign rfl) rfl ?_ -- t4
    refine WL.nil ?_
    refine WC.ret ?_
    repeat (first | (with_reducible refine peelT ?_) | (with_reducible refine peelB ?_) | (with_reducible refine peelTX ?_) | (with_reducible refine peelBX ?_) | (with_reducible refine peelBN ?_) | (with_reducible refine peelBO rfl ?_))
    exact ret1 (.inr rfl) Tryz.results43 rfl fun w' h => ⟨(), trivial, by unfold cmpI; rw [if_pos g16], h.sub (by repeat (first | exact TakeL.nil | (apply TakeL.cons; · repeat (first | exact Take1.head | apply Take1.tail))))⟩
  · refine WC.skip ?_
    refine WC.seq ?_
    refine WC.seq ?_
    refine WC.region ?_
    refine WL.y (Yl.move rfl) rfl ?_ -- t17
    refine WL.y (Yl.move rfl) rfl ?_ -- t18
    refine WL.y (Yl.gtr rfl rfl) rfl ?_ -- t19
    refine WL.nil ?_
    refine WC.condD rfl (fun g19 => ?_) (fun g19 => ?_)
    · refine WC.seq ?_
      refine WC.region ?_
      refine WL.y (Yl.assign rfl) rfl ?_ -- t4
      refine WL.nil ?_
      refine WC.ret ?_
      repeat (first | (with_reducible refine peelT ?_) | (with_reducible refine peelB ?_) | (with_reducible refine peelTX ?_) | (with_reducible refine peelBX ?_) | (with_reducible refine peelBN ?_) | (with_reducible refine peelBO rfl ?_))
      exact ret1 (.inr rfl) Tryz.results43 rfl fun w' h => ⟨(), trivial, by unfold cmpI; rw [if_neg g16, if_pos g19], h.sub (by repeat (first | exact TakeL.nil | (apply TakeL.cons; · repeat (first | exact Take1.head | apply Take1.tail))))⟩
    · refine WC.skip ?_
      refine WC.seq ?_
      refine WC.region ?_
      refine WL.y (Yl.assign rfl) rfl ?_ -- t4
      refine WL.nil ?_
      refine WC.ret ?_
      repeat (first | (with_reducible refine peelT ?_) | (with_reducible refine peelB ?_) | (with_reducible refine peelTX ?_) | (with_reducible refine peelBX ?_) | (with_reducible refine peelBN ?_) | (with_reducible refine peelBO rfl ?_))
      exact ret1 (.inr rfl) Tryz.results43 rfl fun w' h => ⟨(), trivial, by unfold cmpI; rw [if_neg g16, if_neg g19], h.sub (by repeat (first | exact TakeL.nil | (apply TakeL.cons; · repeat (first | exact Take1.head | apply Take1.tail))))⟩
def orL : List Int → Int
  | [] => 0
  | x :: xs => if x ≠ 0 then x else orL xs
theorem or_any (zs : List Int) (v : Value) (hl : zs.length ≤ 1000) (w : World) (hb : RdS w (fpL []) v 1 zs.length (ints .i64 zs)) (hw : OK w (fpL []) [] w) :
    Fn Tryz.prog 41 [v] [] w (fun _ : Unit => True) (fun _ => .int .i64 (orL zs)) (fun _ => []) := by
  obtain ⟨al, cl, rfl, hcl, hml⟩ := hb.rd.form
  refine enterF Tryz.func41 rfl Tryz.ntmps41 rfl hw ?_
  refine WC.seq ?_
  refine WC.region ?_
  refine WL.y (Yl.assign rfl) rfl ?_ -- t2
  refine WL.nil ?_
  refine WC.seq ?_
  refine WC.region ?_
  refine WL.y (Yl.assign rfl) rfl ?_ -- t3
  refine WL.nil ?_
  refine WC.seq ?_
  refine WC.seq ?_
  refine WC.region ?_
  refine WL.y (Yl.move rfl) rfl ?_ -- t6
  refine WL.y (Yl.len un108 rfl) rfl ?_ -- t7
  refine WL.y (Yl.move rfl) rfl ?_ -- t8
  refine WL.nil ?_
  refine WC.block ?_
  refine WC.loop (α := Nat) (fun k => [(3, .int .i64 0), (6, .slice al zs.length cl), (7, .int .i64 (zs.length : Int)), (8, .int .i64 (k : Int))]) (fun _ => []) (fun k => k ≤ zs.length ∧ orL zs = orL (zs.drop k)) (fun k => zs.length - k) 0 ⟨Nat.zero_le _, rfl⟩ ⟨(by repeat (first | exact Sub.nil | refine Sub.cons rfl ?_)), _, (by repeat (first | exact TakeL.nil | (apply TakeL.cons; · repeat (first | exact Take1.head | apply Take1.tail))))⟩ ?_
  rintro k ⟨hk, he⟩
  refine WC.seq ?_
  refine WC.region ?_
  refine WL.y (Yl.lss rfl rfl) rfl ?_ -- t9
  refine WL.nil ?_
  refine WC.seq ?_
  refine WC.condD rfl (fun g9 => ?_) (fun g9 => ?_)
  · refine WC.skip ?_
    refine WC.seq ?_
    refine WC.block ?_
    refine WC.seq ?_
    refine WC.region ?_
    have hk2 : k < zs.length := by omega
    obtain ⟨z, hz⟩ : ∃ z, zs[k]? = some z := ⟨_, List.getElem?_eq_getElem hk2⟩
    have hd : zs.drop k = z :: zs.drop (k + 1) := by rw [List.drop_eq_getElem?_toList_append, hz]; rfl
    have he2 : orL zs = if z ≠ 0 then z else orL (zs.drop (k + 1)) := by rw [he, hd]; rfl
    refine WL.y (Yl.index un108 sz3 rfl rfl (Reads.s hb) rfl (by omega)) rfl ?_ -- t10
    refine WL.y (Yl.loadE on3 rfl (Reads.s hb) (u := .int .i64 z) (by simp [ints, hz])) rfl ?_
    refine WL.y (Yl.assign rfl) rfl ?_ -- t5
    refine WL.nil ?_
    refine WC.seq ?_
    refine WC.region ?_
    refine WL.y (Yl.move rfl) rfl ?_ -- t12
    refine WL.y (Yl.move rfl) rfl ?_ -- t13
    refine WL.y (Yl.neq rfl rfl) rfl ?_ -- t14
    refine WL.nil ?_
    refine WC.condD rfl (fun g14 => ?_) (fun g14 => ?_)
    · refine WC.seq ?_
      refine WC.region ?_
      refine WL.y (Yl.move rfl) rfl ?_ -- t15
      refine WL.y (Yl.assign rfl) rfl ?_ -- t2
      refine WL.nil ?_
      refine WC.ret ?_
      repeat (first | (with_reducible refine peelT ?_) | (with_reducible refine peelB ?_) | (with_reducible refine peelTX ?_) | (with_reducible refine peelBX ?_) | (with_reducible refine peelBN ?_) | (with_reducible refine peelBO rfl ?_))
      exact ret1 (.inr rfl) Tryz.results41 rfl fun w' h => ⟨(), trivial, by rw [he2, if_pos g14], h.sub (by repeat (first | exact TakeL.nil | (apply TakeL.cons; · repeat (first | exact Take1.head | apply Take1.tail))))⟩
    · refine WC.skip ?_
      refine WC.region ?_
      refine WL.y (Yl.add rfl rfl (IntWalk.i64_in _ (by omega))) rfl ?_ -- t16
      refine WL.y (Yl.move rfl) rfl ?_ -- t8
      refine WL.nil ?_
      exact ⟨rfl, k + 1, ⟨by omega, by rw [he2, if_neg g14]⟩, by omega, (by repeat (first | exact Sub.nil | refine Sub.cons rfl ?_)), _, (by repeat (first | exact TakeL.nil | (apply TakeL.cons; · repeat (first | exact Take1.head | apply Take1.tail))))⟩
  · refine WC.exit ?_
    refine WC.seq ?_
    refine WC.region ?_
    refine WL.y (Yl.move rfl) rfl ?_ -- t17
    refine WL.y (Yl.assign rfl) rfl ?_ -- t2
    refine WL.nil ?_
    refine WC.ret ?_
    repeat (first | (with_reducible refine peelT ?_) | (with_reducible refine peelB ?_) | (with_reducible refine peelTX ?_) | (with_reducible refine peelBX ?_) | (with_reducible refine peelBN ?_) | (with_reducible refine peelBO rfl ?_))
    have hk2 : k = zs.length := by omega
    exact ret1 (.inr rfl) Tryz.results41 rfl fun w' h => ⟨(), trivial, by rw [he, hk2, List.drop_length]; rfl, h.sub (by repeat (first | exact TakeL.nil | (apply TakeL.cons; · repeat (first | exact Take1.head | apply Take1.tail))))⟩
theorem ext_cmp {xs ys : List Int} {u v : Value} {w : World} (hx : Rd w 1 u xs.length (ints .u8 xs)) (hy : Rd w 1 v ys.length (ints .u8 ys)) (h1 : ∀ x ∈ xs, 0 ≤ x ∧ x < 256) (h2 : ∀ y ∈ ys, 0 ≤ y ∧ y < 256) : (callFunc 71 #[u, v]).run Tryz.prog w = .ok (.value (.int .i64 (lexF xs ys))) w := by
  rw [run_callFunc_extern (e := Extern.BytealgCompare.compare) Tryz.func71 (by kernel_rfl) (by kernel_rfl) (by kernel_rfl) (by kernel_rfl), run_cmpX hx hy h1 h2]
  rfl
theorem cmpB_any (xs ys : List Int) (u v : Value) (h1 : ∀ x ∈ xs, 0 ≤ x ∧ x < 256) (h2 : ∀ y ∈ ys, 0 ≤ y ∧ y < 256) (w : World) (hx : RdS w (fpL []) u 1 xs.length (ints .u8 xs)) (hy : RdS w (fpL []) v 1 ys.length (ints .u8 ys)) (hw : OK w (fpL []) [] w) :
    Fn Tryz.prog 44 [u, v] [] w (fun _ : Unit => True) (fun _ => .int .i64 (lexF xs ys)) (fun _ => []) := by
  refine enterF Tryz.func44 rfl Tryz.ntmps44 rfl hw ?_
  refine WC.seq ?_
  refine WC.region ?_
  refine WL.y (Yl.assign rfl) rfl ?_ -- t4
  refine WL.nil ?_
  refine WC.seq ?_
  refine WC.region ?_
  refine WL.y (Yl.move rfl) rfl ?_ -- t5
  refine WL.y (Yl.move rfl) rfl ?_ -- t6
  refine WL.y (Yl.callExt (xs := [.tmp 5, .tmp 6]) rfl rfl (fun w hw => ext_cmp ((Reads.s hx) w hw) ((Reads.s hy) w hw) h1 h2)) rfl ?_
  refine WL.y (Yl.assign rfl) rfl ?_ -- t4
  refine WL.nil ?_
  refine WC.ret ?_
  repeat (first | (with_reducible refine peelT ?_) | (with_reducible refine peelB ?_) | (with_reducible refine peelTX ?_) | (with_reducible refine peelBX ?_) | (with_reducible refine peelBN ?_) | (with_reducible refine peelBO rfl ?_))
  exact ret1 (.inr rfl) Tryz.results44 rfl fun w' h => ⟨(), trivial, rfl, h.sub (by repeat (first | exact TakeL.nil | (apply TakeL.cons; · repeat (first | exact Take1.head | apply Take1.tail))))⟩
def idxF (zs : List Int) (x : Int) : Int := match zs.findIdx? (fun z => decide (x = z)) with
  | none => -1
  | some i => (i : Int)
theorem index_any (zs : List Int) (v : Value) (x : Int) (hl : zs.length ≤ 1000000) (w : World) (hx : RdS w (fpL []) v 1 zs.length (ints .u8 zs)) (hw : OK w (fpL []) [] w) :
    Fn Tryz.prog 40 [v, .int .u8 x] [] w (fun _ : Unit => True) (fun _ => .int .i64 (idxF zs x)) (fun _ => []) := by
  obtain ⟨al, cl, rfl, hcl, hml⟩ := hx.rd.form
  refine enterF Tryz.func40 rfl Tryz.ntmps40 rfl hw ?_
  refine WC.seq ?_
  refine WC.region ?_
  refine WL.y (Yl.assign rfl) rfl ?_ -- t4
  refine WL.nil ?_
  refine WC.seq ?_
  refine WC.seq ?_
  refine WC.region ?_
  refine WL.y (Yl.move rfl) rfl ?_ -- t6
  refine WL.y (Yl.len un23 rfl) rfl ?_ -- t7
  refine WL.y (Yl.move rfl) rfl ?_ -- t8
  refine WL.nil ?_
  refine WC.block ?_
  refine WC.loop (α := Nat) (fun j => [(0, .slice al zs.length cl), (1, .int .u8 x), (7, .int .i64 (zs.length : Int)), (8, .int .i64 (j : Int))]) (fun _ => []) (fun j => j ≤ zs.length ∧ ∀ (k : Nat) z, k < j → zs[k]? = some z → x ≠ z) (fun j => zs.length - j) 0 ⟨Nat.zero_le _, fun k z h => by omega⟩ ⟨(by repeat (first | exact Sub.nil | refine Sub.cons rfl ?_)), _, (by repeat (first | exact TakeL.nil | (apply TakeL.cons; · repeat (first | exact Take1.head | apply Take1.tail))))⟩ ?_
  rintro j ⟨hj, hno⟩
  refine WC.seq ?_
  refine WC.region ?_
  refine WL.y (Yl.lss rfl rfl) rfl ?_ -- t9
  refine WL.nil ?_
  refine WC.seq ?_
  refine WC.condD rfl (fun g9 => ?_) (fun g9 => ?_)
  · refine WC.skip ?_
    refine WC.seq ?_
    refine WC.block ?_
    refine WC.seq ?_
    refine WC.region ?_
    refine WL.y (Yl.move rfl) rfl ?_ -- t10
    refine WL.y (Yl.assign rfl) rfl ?_ -- t5
    refine WL.nil ?_
    refine WC.seq ?_
    refine WC.region ?_
    refine WL.y (Yl.move rfl) rfl ?_ -- t11
    refine WL.y (Yl.move rfl) rfl ?_ -- t12
    refine WL.y (Yl.move rfl) rfl ?_ -- t13
    have hjl : j < zs.length := by omega
    obtain ⟨z, hz⟩ : ∃ z, zs[j]? = some z := ⟨_, List.getElem?_eq_getElem hjl⟩
    refine WL.y (Yl.index un23 sz5 rfl rfl (Reads.s hx) rfl (by omega)) rfl ?_ -- t14
    refine WL.y (Yl.loadE on5 rfl (Reads.s hx) (u := .int .u8 z) (by simp [ints, hz])) rfl ?_
    refine WL.y (Yl.eql rfl rfl) rfl ?_ -- t16
    refine WL.nil ?_
    refine WC.condD rfl (fun g16 => ?_) (fun g16 => ?_)
    · refine WC.seq ?_
      refine WC.region ?_
      refine WL.y (Yl.move rfl) rfl ?_ -- t17
      refine WL.y (Yl.assign rfl) rfl ?_ -- t4
      refine WL.nil ?_
      refine WC.ret ?_
      repeat (first | (with_reducible refine peelT ?_) | (with_reducible refine peelB ?_) | (with_reducible refine peelTX ?_) | (with_reducible refine peelBX ?_) | (with_reducible refine peelBN ?_) | (with_reducible refine peelBO rfl ?_))
      obtain ⟨hjl, hje⟩ := List.getElem?_eq_some_iff.1 hz
      have e : zs.findIdx? (fun z => decide (x = z)) = some j := List.findIdx?_eq_some_iff_getElem.2 ⟨hjl, by rw [hje]; simpa using g16, fun k hk => by
        have := hno k _ hk (List.getElem?_eq_getElem (by omega))
        simp [this]⟩
      exact ret1 (.inr rfl) Tryz.results40 rfl fun w' h => ⟨(), trivial, by unfold idxF; rw [e], h.sub (by repeat (first | exact TakeL.nil | (apply TakeL.cons; · repeat (first | exact Take1.head | apply Take1.tail))))⟩
    · refine WC.skip ?_
      refine WC.region ?_
      refine WL.y (Yl.add rfl rfl (IntWalk.i64_in _ (by omega))) rfl ?_ -- t18
      refine WL.y (Yl.move rfl) rfl ?_ -- t8
      refine WL.nil ?_
      exact ⟨rfl, j + 1, ⟨by omega, fun k y hk hy => by
        by_cases e : k = j
        · subst e
          rw [hz] at hy
          cases hy
          exact g16
        · exact hno k y (by omega) hy⟩, by omega, (by repeat (first | exact Sub.nil | refine Sub.cons rfl ?_)), _, (by repeat (first | exact TakeL.nil | (apply TakeL.cons; · repeat (first | exact Take1.head | apply Take1.tail))))⟩
  · refine WC.exit ?_
    refine WC.seq ?_
    refine WC.region ?_
    refine WL.y (Yl.assign rfl) rfl ?_ -- t4
    refine WL.nil ?_
    refine WC.ret ?_
    repeat (first | (with_reducible refine peelT ?_) | (with_reducible refine peelB ?_) | (with_reducible refine peelTX ?_) | (with_reducible refine peelBX ?_) | (with_reducible refine peelBN ?_) | (with_reducible refine peelBO rfl ?_))
    have e : zs.findIdx? (fun z => decide (x = z)) = none := List.findIdx?_eq_none_iff.2 fun z hz => by
      obtain ⟨k, hk⟩ := List.mem_iff_getElem?.1 hz
      exact decide_eq_false (hno k z (by have := (List.getElem?_eq_some_iff.1 hk).1; omega) hk)
    exact ret1 (.inr rfl) Tryz.results40 rfl fun w' h => ⟨(), trivial, by unfold idxF; rw [e], h.sub (by repeat (first | exact TakeL.nil | (apply TakeL.cons; · repeat (first | exact Take1.head | apply Take1.tail))))⟩
def rkL : List Int := [1, 4, 2, 7, 5, 6, 3]
theorem idx_rk (o : Int) : idxF rkL o = rkF o := by
  unfold idxF rkF rkL
  by_cases h1 : o = 1
  · subst h1; rfl
  · by_cases h2 : o = 4
    · subst h2; rfl
    · by_cases h3 : o = 2
      · subst h3; rfl
      · by_cases h4 : o = 7
        · subst h4; rfl
        · by_cases h5 : o = 5
          · subst h5; rfl
          · by_cases h6 : o = 6
            · subst h6; rfl
            · by_cases h7 : o = 3
              · subst h7; rfl
              · simp [List.findIdx?, List.findIdx?.go, h1, h2, h3, h4, h5, h6, h7]
theorem ranks_any (w : World) (hw : OK w (fpL []) [] w) : Fn Tryz.prog 38 [] [] w (fun _ : Nat => True) (fun y => .slice (some ⟨y, 0, none⟩) 7 7) (fun y => [blkR y 5 (ints .u8 rkL)]) := by
  refine enterF Tryz.func38 rfl Tryz.ntmps38 rfl hw ?_
  refine WC.seq ?_
  refine WC.region ?_
  refine WL.y (Yl.assign rfl) rfl ?_ -- t0
  refine WL.nil ?_
  refine WC.seq ?_
  refine WC.region ?_
  refine WL.to (To.buildSlice (vs := [.int .u8 1, .int .u8 4, .int .u8 2, .int .u8 7, .int .u8 5, .int .u8 6, .int .u8 3]) un23 zs5 rfl rfl (by simp [Value.cells]) (by decide) (by decide)) rfl ?_ -- t1
  intro b1
  refine WL.y (Yl.assign rfl) rfl ?_ -- t0
  refine WL.nil ?_
  refine WC.ret ?_
  repeat (first | (with_reducible refine peelT ?_) | (with_reducible refine peelB ?_) | (with_reducible refine peelTX ?_) | (with_reducible refine peelBX ?_) | (with_reducible refine peelBN ?_) | (with_reducible refine peelBO rfl ?_))
  exact ret1 (.inr rfl) Tryz.results38 rfl fun w' h => ⟨b1, trivial, rfl, OK.sub (B := [blkR b1 5 (ints .u8 rkL)]) h (by repeat (first | exact TakeL.nil | (apply TakeL.cons; · repeat (first | exact Take1.head | apply Take1.tail))))⟩
theorem at_any (r : Rc) (hr : r.ok) (b : Nat) (v : Value) (w : World) (hb : BlkS w (fpL []) b 23 [v]) (hx : RdS w (fpL []) v 1 rkL.length (ints .u8 rkL)) (hw : OK w (fpL []) [] w) :
    Fn Tryz.prog 39 [.agg r.cells.toArray, .pointer (some ⟨b, 0, none⟩)] [] w (fun _ : Unit => True) (fun _ => .int .i64 (rkF r.oc)) (fun _ => []) := by
  refine enterF Tryz.func39 rfl Tryz.ntmps39 rfl hw ?_
  refine WC.seq ?_
  refine WC.region ?_
  refine WL.to (To.box (cs := r.cells) rfl rfl) rfl ?_ -- t2
  intro b2
  refine WL.y (Yl.assign rfl) rfl ?_ -- t3
  refine WL.nil ?_
  refine WC.seq ?_
  refine WC.region ?_
  refine WL.y (Yl.loadS on23 rfl hb (by rfl)) rfl ?_ -- t4
  refine WL.y (Yl.field fo33_3 rfl) rfl ?_ -- t5
  refine WL.y (Yl.load on5 rfl (by repeat (first | exact Take1.head | apply Take1.tail)) (Rc.c18 hr.len)) rfl ?_ -- t6
  refine WL.callC (xs := [.tmp 4, .tmp 6]) (cap := []) rfl rfl en40 (by repeat (first | exact TakeL.nil | (apply TakeL.cons; · repeat (first | exact Take1.head | apply Take1.tail)))) (fun w hw => index_any rkL v r.oc (by decide) w (hw.srcS (A := []) hx) hw.left.here) rfl ?_ -- t7 slices.Index[[]uint8,uint8]
  rintro ⟨⟩ -
  rw [idx_rk]
  refine WL.y (Yl.assign rfl) rfl ?_ -- t3
  refine WL.nil ?_
  refine WC.ret ?_
  repeat (first | (with_reducible refine peelT ?_) | (with_reducible refine peelB ?_) | (with_reducible refine peelTX ?_) | (with_reducible refine peelBX ?_) | (with_reducible refine peelBN ?_) | (with_reducible refine peelBO rfl ?_))
  exact ret1 (.inr rfl) Tryz.results39 rfl fun w' h => ⟨(), trivial, rfl, h.sub (by repeat (first | exact TakeL.nil | (apply TakeL.cons; · repeat (first | exact Take1.head | apply Take1.tail))))⟩
theorem putM_any (r : Rc) (hr : r.ok) (hm : mayB r = true) (w : World) (hw : OK w (fpL []) [] w) :
    Fn Tryz.prog 30 [.agg r.cells.toArray] [] w (fun y : Option Addr × Nat => 43 ≤ y.2) (fun y => .slice y.1 43 y.2) (fun y => [ownR (.slice y.1 43 y.2) 5 1 43 (ints .u8 (recB r))]) := by
  refine enterF Tryz.func30 rfl Tryz.ntmps30 rfl hw ?_
  refine WC.seq ?_
  refine WC.region ?_
  refine WL.to (To.box (cs := r.cells) rfl rfl) rfl ?_ -- t1
  intro b1
  refine WL.y (Yl.assign rfl) rfl ?_ -- t2
  refine WL.nil ?_
  refine WC.seq ?_
  refine WC.region ?_
  refine WL.y (Yl.loadN ag33 rfl (by repeat (first | exact Take1.head | apply Take1.tail)) (leB (by rw [Rc.cells_len hr.len]; omega)) (Rc.call hr.len)) rfl ?_ -- t6
  refine WL.callC (xs := [.tmp 6]) (cap := []) rfl rfl en60 (by repeat (first | exact TakeL.nil | (apply TakeL.cons; · repeat (first | exact Take1.head | apply Take1.tail)))) (fun w hw => rput_ok r hr hm w hw.left.here) rfl ?_ -- t7 hailer/rec.Put
  rintro ⟨a7, c7⟩ hc7
  dsimp only [List.cons_append, List.nil_append]
  refine WL.y (Yl.move rfl) rfl ?_ -- t5
  refine WL.y (Yl.extract rfl rfl) rfl ?_ -- t8
  refine WL.y (Yl.extract rfl rfl) rfl ?_ -- t9
  refine WL.y (Yl.assign rfl) rfl ?_ -- t3
  refine WL.y (Yl.assign rfl) rfl ?_ -- t4
  refine WL.nil ?_
  refine WC.seq ?_
  refine WC.region ?_
  refine WL.y (Yl.move rfl) rfl ?_ -- t10
  refine WL.y (Yl.assign rfl) rfl ?_ -- t2
  refine WL.nil ?_
  refine WC.ret ?_
  repeat (first | (with_reducible refine peelT ?_) | (with_reducible refine peelB ?_) | (with_reducible refine peelTX ?_) | (with_reducible refine peelBX ?_) | (with_reducible refine peelBN ?_) | (with_reducible refine peelBO rfl ?_))
  exact ret1 (.inr rfl) Tryz.results30 rfl fun w' h => ⟨(a7, c7), hc7, rfl, h.sub (by repeat (first | exact TakeL.nil | (apply TakeL.cons; · repeat (first | exact Take1.head | apply Take1.tail))))⟩
theorem bet_orL (a b : Rc) : betF a b = orL [cmpI (rkF a.oc) (rkF b.oc), cmpI b.en a.en, cmpI a.bg b.bg, lexF (recB a) (recB b)] := by
  rw [bet_or]
  unfold orL orL orL orL orL
  repeat' split
  all_goals simp_all
theorem ord_orL (a b : Rc) : ordF a b = orL [cmpI a.en b.en, lexF a.id b.id] := by
  rw [ord_or]
  unfold orL orL orL
  repeat' split
  all_goals simp_all
set_option maxRecDepth 100000 in
theorem better_any (p q : Rc) (hp : Bk p) (hq : Bk q) (w : World) (hw : OK w (fpL []) [] w) :
    Fn Tryz.prog 18 [.agg p.cells.toArray, .agg q.cells.toArray] [] w (fun _ : Unit => True) (fun _ => .agg (betterF p q).cells.toArray) (fun _ => []) := by
  have hpo := hp.ok
  have hqo := hq.ok
  have hp22 := Rc.cells_len hpo.len
  have hq22 := Rc.cells_len hqo.len
  refine enterF Tryz.func18 rfl Tryz.ntmps18 rfl hw ?_
  refine WC.seq ?_
  refine WC.region ?_
  refine WL.to (To.box (cs := p.cells) rfl rfl) rfl ?_ -- t2
  intro b2
  refine WL.to (To.box (cs := q.cells) rfl rfl) rfl ?_ -- t3
  intro b3
  refine WL.to (To.alloc (cs := Rc.zero.cells) zr33 rfl) rfl ?_ -- t4
  intro b4
  refine WL.nil ?_
  refine WC.seq ?_
  refine WC.region ?_
  refine WL.callC (xs := []) (cap := []) rfl rfl en38 (by repeat (first | exact TakeL.nil | (apply TakeL.cons; · repeat (first | exact Take1.head | apply Take1.tail)))) (fun w hw => ranks_any w hw.left.here) rfl ?_ -- t7 hailer/merge.ranks
  rintro br -
  dsimp only [List.cons_append, List.nil_append]
  refine WL.to (To.alloc (cs := [.slice none 0 0]) zr23 rfl) rfl ?_ -- t5
  intro b5
  refine WL.sto (Sto.one sz23 rfl rfl (by repeat (first | exact Take1.head | apply Take1.tail)) rfl (by rfl) (by rfl)) (fun _ h => nomatch h) ?_ -- st 1
  refine WL.nil ?_
  refine WC.seq ?_
  refine WC.region ?_
  refine WL.y (Yl.makeFunc (xs := []) (ys := [.tmp 5]) rfl rfl) rfl ?_ -- t8
  refine WL.y (Yl.assign rfl) rfl ?_ -- t6
  refine WL.nil ?_
  refine WC.seq ?_
  refine WC.seq ?_
  refine WC.drawAny (Hs := [blkR b2 33 p.cells, blkR b3 33 q.cells, blkR b5 23 [.slice (some ⟨br, 0, none⟩) 7 7], blkR br 5 (ints .u8 rkL)]) mixed (by kernel_rfl) ⟨_, (by repeat (first | exact TakeL.nil | (apply TakeL.cons; · repeat (first | exact Take1.head | apply Take1.tail))))⟩ ?_
  refine WD.take 0 rfl (by kernel_rfl) (by kernel_rfl) (by kernel_rfl) rfl rfl (Yl.move rfl) rfl ?_ -- t9
  refine WD.take 1 rfl (by kernel_rfl) (by kernel_rfl) (by kernel_rfl) rfl rfl (Yl.loadN ag33 rfl (by repeat (first | exact Take1.head | apply Take1.tail)) (leB (by rw [hp22]; omega)) (Rc.call hpo.len)) rfl ?_ -- t10
  refine WD.take 3 rfl (by kernel_rfl) (by kernel_rfl) (by kernel_rfl) rfl rfl (Yl.move rfl) rfl ?_ -- t12
  refine WD.take 4 rfl (by kernel_rfl) (by kernel_rfl) (by kernel_rfl) rfl rfl (Yl.loadN ag33 rfl (by repeat (first | exact Take1.head | apply Take1.tail)) (leB (by rw [hq22]; omega)) (Rc.call hqo.len)) rfl ?_ -- t13
  refine WD.take 7 rfl (by kernel_rfl) (by kernel_rfl) (by kernel_rfl) rfl rfl (Yl.field fo33_6 rfl) rfl ?_ -- t16
  refine WD.take 8 rfl (by kernel_rfl) (by kernel_rfl) (by kernel_rfl) rfl rfl (Yl.load on31 rfl (by repeat (first | exact Take1.head | apply Take1.tail)) (Rc.c21 hqo.len)) rfl ?_ -- t17
  refine WD.take 9 rfl (by kernel_rfl) (by kernel_rfl) (by kernel_rfl) rfl rfl (Yl.field fo33_6 rfl) rfl ?_ -- t18
  refine WD.take 10 rfl (by kernel_rfl) (by kernel_rfl) (by kernel_rfl) rfl rfl (Yl.load on31 rfl (by repeat (first | exact Take1.head | apply Take1.tail)) (Rc.c21 hpo.len)) rfl ?_ -- t19
  refine WD.take 12 rfl (by kernel_rfl) (by kernel_rfl) (by kernel_rfl) rfl rfl (Yl.field fo33_4 rfl) rfl ?_ -- t21
  refine WD.take 13 rfl (by kernel_rfl) (by kernel_rfl) (by kernel_rfl) rfl rfl (Yl.load on31 rfl (by repeat (first | exact Take1.head | apply Take1.tail)) (Rc.c19 hpo.len)) rfl ?_ -- t22
  refine WD.take 14 rfl (by kernel_rfl) (by kernel_rfl) (by kernel_rfl) rfl rfl (Yl.field fo33_4 rfl) rfl ?_ -- t23
  refine WD.take 15 rfl (by kernel_rfl) (by kernel_rfl) (by kernel_rfl) rfl rfl (Yl.load on31 rfl (by repeat (first | exact Take1.head | apply Take1.tail)) (Rc.c19 hqo.len)) rfl ?_ -- t24
  refine WD.take 17 rfl (by kernel_rfl) (by kernel_rfl) (by kernel_rfl) rfl rfl (Yl.loadN ag33 rfl (by repeat (first | exact Take1.head | apply Take1.tail)) (leB (by rw [hp22]; omega)) (Rc.call hpo.len)) rfl ?_ -- t26
  refine WD.take 19 rfl (by kernel_rfl) (by kernel_rfl) (by kernel_rfl) rfl rfl (Yl.loadN ag33 rfl (by repeat (first | exact Take1.head | apply Take1.tail)) (leB (by rw [hq22]; omega)) (Rc.call hqo.len)) rfl ?_ -- t28
  refine WD.one 2 (by kernel_rfl) ?_
  refine WO.callC (f := .tmp 9) (xs := [.tmp 10]) (cap := [.pointer (some ⟨b5, 0, none⟩)]) rfl .no rfl rfl en39 (by repeat (first | exact TakeL.nil | (apply TakeL.cons; · repeat (first | exact Take1.head | apply Take1.tail)))) (fun w hw => at_any p hpo b5 (.slice (some ⟨br, 0, none⟩) 7 7) w (hw.srcB (A := []) (by repeat (first | exact Take1.head | apply Take1.tail))) (hw.src (A := []) (r := blkR br 5 (ints .u8 rkL)) (RdOf.blk (Nat.le_refl _) (by unfold maxLen; omega) (by decide) rfl) (by repeat (first | exact Take1.head | apply Take1.tail))) hw.left.here) rfl (fun _ => ⟨_, (by repeat (first | exact TakeL.nil | (apply TakeL.cons; · repeat (first | exact Take1.head | apply Take1.tail))))⟩) ?_ -- t11
  rintro ⟨⟩ -
  refine WD.one 5 (by kernel_rfl) ?_
  refine WO.callC (f := .tmp 12) (xs := [.tmp 13]) (cap := [.pointer (some ⟨b5, 0, none⟩)]) rfl .no rfl rfl en39 (by repeat (first | exact TakeL.nil | (apply TakeL.cons; · repeat (first | exact Take1.head | apply Take1.tail)))) (fun w hw => at_any q hqo b5 (.slice (some ⟨br, 0, none⟩) 7 7) w (hw.srcB (A := []) (by repeat (first | exact Take1.head | apply Take1.tail))) (hw.src (A := []) (r := blkR br 5 (ints .u8 rkL)) (RdOf.blk (Nat.le_refl _) (by unfold maxLen; omega) (by decide) rfl) (by repeat (first | exact Take1.head | apply Take1.tail))) hw.left.here) rfl (fun _ => ⟨_, (by repeat (first | exact TakeL.nil | (apply TakeL.cons; · repeat (first | exact Take1.head | apply Take1.tail))))⟩) ?_ -- t14
  rintro ⟨⟩ -
  refine WD.one 6 (by kernel_rfl) ?_
  refine WO.callC (xs := [.tmp 11, .tmp 14]) (cap := []) rfl .no rfl rfl en42 (by repeat (first | exact TakeL.nil | (apply TakeL.cons; · repeat (first | exact Take1.head | apply Take1.tail)))) (fun w hw => cmpInt_any (rkF p.oc) (rkF q.oc) w hw.left.here) rfl (fun _ => ⟨_, (by repeat (first | exact TakeL.nil | (apply TakeL.cons; · repeat (first | exact Take1.head | apply Take1.tail))))⟩) ?_ -- t15 cmp.Compare[int]
  rintro ⟨⟩ -
  refine WD.one 11 (by kernel_rfl) ?_
  refine WO.callC (xs := [.tmp 17, .tmp 19]) (cap := []) rfl .no rfl rfl en43 (by repeat (first | exact TakeL.nil | (apply TakeL.cons; · repeat (first | exact Take1.head | apply Take1.tail)))) (fun w hw => cmpU_any q.en p.en w hw.left.here) rfl (fun _ => ⟨_, (by repeat (first | exact TakeL.nil | (apply TakeL.cons; · repeat (first | exact Take1.head | apply Take1.tail))))⟩) ?_ -- t20 cmp.Compare[uint64]
  rintro ⟨⟩ -
  refine WD.one 16 (by kernel_rfl) ?_
  refine WO.callC (xs := [.tmp 22, .tmp 24]) (cap := []) rfl .no rfl rfl en43 (by repeat (first | exact TakeL.nil | (apply TakeL.cons; · repeat (first | exact Take1.head | apply Take1.tail)))) (fun w hw => cmpU_any p.bg q.bg w hw.left.here) rfl (fun _ => ⟨_, (by repeat (first | exact TakeL.nil | (apply TakeL.cons; · repeat (first | exact Take1.head | apply Take1.tail))))⟩) ?_ -- t25 cmp.Compare[uint64]
  rintro ⟨⟩ -
  refine WD.one 18 (by kernel_rfl) ?_
  refine WO.callC (xs := [.tmp 26]) (cap := []) rfl .no rfl rfl en30 (by repeat (first | exact TakeL.nil | (apply TakeL.cons; · repeat (first | exact Take1.head | apply Take1.tail)))) (fun w hw => putM_any p hpo hp.may w hw.left.here) rfl (fun _ => ⟨_, (by repeat (first | exact TakeL.nil | (apply TakeL.cons; · repeat (first | exact Take1.head | apply Take1.tail))))⟩) ?_ -- t27 hailer/merge.put
  rintro ⟨a27, c27⟩ -
  dsimp only [List.cons_append, List.nil_append]
  refine WD.one 20 (by kernel_rfl) ?_
  refine WO.callC (xs := [.tmp 28]) (cap := []) rfl .no rfl rfl en30 (by repeat (first | exact TakeL.nil | (apply TakeL.cons; · repeat (first | exact Take1.head | apply Take1.tail)))) (fun w hw => putM_any q hqo hq.may w hw.left.here) rfl (fun _ => ⟨_, (by repeat (first | exact TakeL.nil | (apply TakeL.cons; · repeat (first | exact Take1.head | apply Take1.tail))))⟩) ?_ -- t29 hailer/merge.put
  rintro ⟨a29, c29⟩ -
  dsimp only [List.cons_append, List.nil_append]
  refine WD.one 21 (by kernel_rfl) ?_
  refine WO.callC (xs := [.tmp 27, .tmp 29]) (cap := []) rfl .no rfl rfl en44 (by repeat (first | exact TakeL.nil | (apply TakeL.cons; · repeat (first | exact Take1.head | apply Take1.tail)))) (fun w hw => cmpB_any (recB p) (recB q) (.slice a27 43 c27) (.slice a29 43 c29) (recB_bytes hpo) (recB_bytes hqo) w (by rw [recB_len hpo.len]; exact hw.src (A := []) (r := ownR (.slice a27 43 c27) 5 1 43 (ints .u8 (recB p))) RdOf.own (by repeat (first | exact Take1.head | apply Take1.tail))) (by rw [recB_len hqo.len]; exact hw.src (A := []) (r := ownR (.slice a29 43 c29) 5 1 43 (ints .u8 (recB q))) RdOf.own (by repeat (first | exact Take1.head | apply Take1.tail))) hw.left.here) rfl (fun _ => ⟨_, (by repeat (first | exact TakeL.nil | (apply TakeL.cons; · repeat (first | exact Take1.head | apply Take1.tail))))⟩) ?_ -- t30 bytes.Compare
  rintro ⟨⟩ -
  refine WD.one 22 (by kernel_rfl) ?_
  refine WO.to rfl rfl .no (To.buildSlice (vs := [.int .i64 (cmpI (rkF p.oc) (rkF q.oc)), .int .i64 (cmpI q.en p.en), .int .i64 (cmpI p.bg q.bg), .int .i64 (lexF (recB p) (recB q))]) un108 zs3 rfl rfl (by simp [Value.cells]) (by decide) (by decide)) rfl (fun _ => ⟨_, (by repeat (first | exact TakeL.nil | (apply TakeL.cons; · repeat (first | exact Take1.head | apply Take1.tail))))⟩) ?_ -- t31
  intro b31
  refine WD.one 23 (by kernel_rfl) ?_
  refine WO.callC (xs := [.tmp 31]) (cap := []) rfl .no rfl rfl en41 (by repeat (first | exact TakeL.nil | (apply TakeL.cons; · repeat (first | exact Take1.head | apply Take1.tail)))) (fun w hw => or_any [cmpI (rkF p.oc) (rkF q.oc), cmpI q.en p.en, cmpI p.bg q.bg, lexF (recB p) (recB q)] (.slice (some ⟨b31, 0, none⟩) 4 4) (by simp) w (hw.src (A := []) (RdOf.blk (b := b31) (T := 3) (cs := ints .i64 [cmpI (rkF p.oc) (rkF q.oc), cmpI q.en p.en, cmpI p.bg q.bg, lexF (recB p) (recB q)]) (Nat.le_refl _) (by unfold maxLen; omega) (by simp [ints]) rfl) (by repeat (first | exact Take1.head | apply Take1.tail))) hw.left.here) rfl (fun _ => ⟨_, (by repeat (first | exact TakeL.nil | (apply TakeL.cons; · repeat (first | exact Take1.head | apply Take1.tail))))⟩) ?_ -- t32 cmp.Or[int]
  rintro ⟨⟩ -
  rw [← bet_orL]
  refine WD.take 24 rfl (by kernel_rfl) (by kernel_rfl) (by kernel_rfl) rfl rfl (Yl.gtr rfl rfl) rfl ?_ -- t33
  refine WD.done (by kernel_rfl) ?_
  refine WC.condD rfl (fun g33 => ?_) (fun g33 => ?_)
  · refine WC.seq ?_
    refine WC.region ?_
    refine WL.y (Yl.loadN ag33 rfl (by repeat (first | exact Take1.head | apply Take1.tail)) (leB (by rw [hq22]; omega)) (Rc.call hqo.len)) rfl ?_ -- t34
    refine WL.sto (Sto.agg sz33 rfl rfl (by repeat (first | exact Take1.head | apply Take1.tail)) (Rc.ones _) hq22 (by rfl) (Rc.all (r := Rc.zero) rfl q.cells hq22)) (fun _ h => nomatch h) ?_ -- st 2
    refine WL.nil ?_
    refine WC.ret ?_
    repeat (first | (with_reducible refine peelT ?_) | (with_reducible refine peelB ?_) | (with_reducible refine peelTX ?_) | (with_reducible refine peelBX ?_) | (with_reducible refine peelBN ?_) | (with_reducible refine peelBO rfl ?_))
    have e : betterF p q = q := if_pos g33
    rw [e]
    exact retC1 (cs := q.cells) (.inr rfl) Tryz.results18 ag33 rfl (by repeat (first | exact Take1.head | apply Take1.tail)) hq22 fun w' h => ⟨(), trivial, rfl, h.sub (by repeat (first | exact TakeL.nil | (apply TakeL.cons; · repeat (first | exact Take1.head | apply Take1.tail))))⟩
  · refine WC.skip ?_
    refine WC.seq ?_
    refine WC.region ?_
    refine WL.y (Yl.loadN ag33 rfl (by repeat (first | exact Take1.head | apply Take1.tail)) (leB (by rw [hp22]; omega)) (Rc.call hpo.len)) rfl ?_ -- t35
    refine WL.sto (Sto.agg sz33 rfl rfl (by repeat (first | exact Take1.head | apply Take1.tail)) (Rc.ones _) hp22 (by rfl) (Rc.all (r := Rc.zero) rfl p.cells hp22)) (fun _ h => nomatch h) ?_ -- st 3
    refine WL.nil ?_
    refine WC.ret ?_
    repeat (first | (with_reducible refine peelT ?_) | (with_reducible refine peelB ?_) | (with_reducible refine peelTX ?_) | (with_reducible refine peelBX ?_) | (with_reducible refine peelBN ?_) | (with_reducible refine peelBO rfl ?_))
    have e : betterF p q = p := if_neg g33
    rw [e]
    exact retC1 (cs := p.cells) (.inr rfl) Tryz.results18 ag33 rfl (by repeat (first | exact Take1.head | apply Take1.tail)) hp22 fun w' h => ⟨(), trivial, rfl, h.sub (by repeat (first | exact TakeL.nil | (apply TakeL.cons; · repeat (first | exact Take1.head | apply Take1.tail))))⟩
theorem rdId {b : Nat} {r : Rc} (hr : r.ok) : RdOf (blkR b 33 r.cells) (.slice (some ⟨b, 0, none⟩) 16 16) 1 r.id.length (ints .u8 r.id) := by
  rw [hr.len]
  exact RdOf.blk (Nat.le_refl _) (by unfold maxLen; omega) (by rw [Rc.cells_len hr.len]; omega) (Rc.cid hr.len)
theorem order_any (p q : Rc) (hp : p.ok) (hq : q.ok) (w : World) (hw : OK w (fpL []) [] w) : Fn Tryz.prog 47 [.agg p.cells.toArray, .agg q.cells.toArray] [] w (fun _ : Unit => True) (fun _ => .int .i64 (ordF p q)) (fun _ => []) := by
  refine enterF Tryz.func47 rfl Tryz.ntmps47 rfl hw ?_
  refine WC.seq ?_
  refine WC.region ?_
  refine WL.to (To.box (cs := p.cells) rfl rfl) rfl ?_ -- t2
  intro b2
  refine WL.to (To.box (cs := q.cells) rfl rfl) rfl ?_ -- t3
  intro b3
  refine WL.y (Yl.assign rfl) rfl ?_ -- t4
  refine WL.nil ?_
  refine WC.seq ?_
  refine WC.drawAny (Hs := [blkR b2 33 p.cells, blkR b3 33 q.cells]) mixed (by kernel_rfl) ⟨_, (by repeat (first | exact TakeL.nil | (apply TakeL.cons; · repeat (first | exact Take1.head | apply Take1.tail))))⟩ ?_
  refine WD.take 0 rfl (by kernel_rfl) (by kernel_rfl) (by kernel_rfl) rfl rfl (Yl.field fo33_6 rfl) rfl ?_ -- t5
  refine WD.take 1 rfl (by kernel_rfl) (by kernel_rfl) (by kernel_rfl) rfl rfl (Yl.load on31 rfl (by repeat (first | exact Take1.head | apply Take1.tail)) (Rc.c21 hp.len)) rfl ?_ -- t6
  refine WD.take 2 rfl (by kernel_rfl) (by kernel_rfl) (by kernel_rfl) rfl rfl (Yl.field fo33_6 rfl) rfl ?_ -- t7
  refine WD.take 3 rfl (by kernel_rfl) (by kernel_rfl) (by kernel_rfl) rfl rfl (Yl.load on31 rfl (by repeat (first | exact Take1.head | apply Take1.tail)) (Rc.c21 hq.len)) rfl ?_ -- t8
  refine WD.take 5 rfl (by kernel_rfl) (by kernel_rfl) (by kernel_rfl) rfl rfl (Yl.field fo33_0 rfl) rfl ?_ -- t10
  refine WD.take 6 rfl (by kernel_rfl) (by kernel_rfl) (by kernel_rfl) rfl rfl (Yl.sliceArr un30 sz5 (by decide) rfl) rfl ?_ -- t11
  refine WD.take 7 rfl (by kernel_rfl) (by kernel_rfl) (by kernel_rfl) rfl rfl (Yl.field fo33_0 rfl) rfl ?_ -- t12
  refine WD.take 8 rfl (by kernel_rfl) (by kernel_rfl) (by kernel_rfl) rfl rfl (Yl.sliceArr un30 sz5 (by decide) rfl) rfl ?_ -- t13
  refine WD.one 4 (by kernel_rfl) ?_
  refine WO.callC (xs := [.tmp 6, .tmp 8]) (cap := []) rfl .no rfl rfl en43 (by repeat (first | exact TakeL.nil | (apply TakeL.cons; · repeat (first | exact Take1.head | apply Take1.tail)))) (fun w hw => cmpU_any p.en q.en w hw.left.here) rfl (fun _ => ⟨_, (by repeat (first | exact TakeL.nil | (apply TakeL.cons; · repeat (first | exact Take1.head | apply Take1.tail))))⟩) ?_ -- t9 cmp.Compare[uint64]
  rintro ⟨⟩ -
  refine WD.one 9 (by kernel_rfl) ?_
  refine WO.callC (xs := [.tmp 11, .tmp 13]) (cap := []) rfl .no rfl rfl en44 (by repeat (first | exact TakeL.nil | (apply TakeL.cons; · repeat (first | exact Take1.head | apply Take1.tail)))) (fun w hw => cmpB_any p.id q.id (.slice (some ⟨b2, 0, none⟩) 16 16) (.slice (some ⟨b3, 0, none⟩) 16 16) hp.id hq.id w (hw.src (A := []) (r := blkR b2 33 p.cells) (rdId hp) (by repeat (first | exact Take1.head | apply Take1.tail))) (hw.src (A := []) (r := blkR b3 33 q.cells) (rdId hq) (by repeat (first | exact Take1.head | apply Take1.tail))) hw.left.here) rfl (fun _ => ⟨_, (by repeat (first | exact TakeL.nil | (apply TakeL.cons; · repeat (first | exact Take1.head | apply Take1.tail))))⟩) ?_ -- t14 bytes.Compare
  rintro ⟨⟩ -
  refine WD.one 10 (by kernel_rfl) ?_
  refine WO.to rfl rfl .no (To.buildSlice (vs := [.int .i64 (cmpI p.en q.en), .int .i64 (lexF p.id q.id)]) un108 zs3 rfl rfl (by simp [Value.cells]) (by decide) (by decide)) rfl (fun _ => ⟨_, (by repeat (first | exact TakeL.nil | (apply TakeL.cons; · repeat (first | exact Take1.head | apply Take1.tail))))⟩) ?_ -- t15
  intro b15
  refine WD.one 11 (by kernel_rfl) ?_
  refine WO.callC (xs := [.tmp 15]) (cap := []) rfl .no rfl rfl en41 (by repeat (first | exact TakeL.nil | (apply TakeL.cons; · repeat (first | exact Take1.head | apply Take1.tail)))) (fun w hw => or_any [cmpI p.en q.en, lexF p.id q.id] (.slice (some ⟨b15, 0, none⟩) 2 2) (by simp) w (hw.src (A := []) (RdOf.blk (b := b15) (T := 3) (cs := ints .i64 [cmpI p.en q.en, lexF p.id q.id]) (Nat.le_refl _) (by unfold maxLen; omega) (by simp [ints]) rfl) (by repeat (first | exact Take1.head | apply Take1.tail))) hw.left.here) rfl (fun _ => ⟨_, (by repeat (first | exact TakeL.nil | (apply TakeL.cons; · repeat (first | exact Take1.head | apply Take1.tail))))⟩) ?_ -- t16 cmp.Or[int]
  rintro ⟨⟩ -
  rw [← ord_orL]
  refine WD.take 12 rfl (by kernel_rfl) (by kernel_rfl) (by kernel_rfl) rfl rfl (Yl.assign rfl) rfl ?_ -- t4
  refine WD.done (by kernel_rfl) ?_
  refine WC.ret ?_
  repeat (first | (with_reducible refine peelT ?_) | (with_reducible refine peelB ?_) | (with_reducible refine peelTX ?_) | (with_reducible refine peelBX ?_) | (with_reducible refine peelBN ?_) | (with_reducible refine peelBO rfl ?_))
  exact ret1 (.inr rfl) Tryz.results47 rfl fun w' h => ⟨(), trivial, rfl, h.sub (by repeat (first | exact TakeL.nil | (apply TakeL.cons; · repeat (first | exact Take1.head | apply Take1.tail))))⟩
end Go.Proofs.YtmcdbjbkkejbbaaGreat
