/- DiskPlays: what it asks first, and how much a script is: the walks. -/
import Derived.Test.YtjlgmaappebppaaDiskH
import Derived.Test.YtjlgmaappebppaaLibR
namespace Go.Proofs.Ytjlgmaappebppaa
open Go Go.RowKit

theorem dwV : VT Try.prog 30 6 (fun _ : Dw => True) Dw.val := .agg (cel := Dw.cells) ag30 (by kernel_rfl) (by decide) (fun _ => rfl) (fun _ _ => rfl) Dw.ones

theorem reads_any (b : Nat) (v0 v1 : Value) (x y t : List Int) (m : Int) (s : ByteArray) (hs : s = strOfNums t) (hX : Bytes x) (hY : Bytes y) (hT : Bytes t) (hxl : x.length ≤ 90000) (hyl : y.length ≤ 90000) (w : World) (hw : OK w (fpL (dskR b v0 v1 x y)) (dskR b v0 v1 x y) w) :
    Fn Try.prog 14 [.pointer (some ⟨b, 0, none⟩), .int .u64 m, .string s] (dskR b v0 v1 x y) w (fun _ : Unit => True) (fun _ => .bool (decide (nwN x y = m) && (decide (nwB x y = t) && decide (rdE x y = 0)))) (fun _ => dskR b v0 v1 x y) := by
  subst hs
  have hnb : Bytes (nwB x y) := by
    unfold nwB whB
    split
    · exact (hY.drop _).take _
    · split
      · exact (hX.drop _).take _
      · intro z hz; cases hz
  refine enterF Try.func14 rfl Try.ntmps14 rfl hw ?_
  refine WC.seq ?_
  refine WC.region ?_
  refine WL.y (Yl.assign rfl) rfl ?_ -- t6
  refine WL.nil ?_
  refine WC.seq ?_
  refine WC.region ?_
  refine WL.y (Yl.move rfl) rfl ?_ -- t11
  refine WL.callC (xs := [.tmp 11]) (cap := []) rfl rfl en11 (by repeat (first | exact TakeL.nil | (apply TakeL.cons; · repeat (first | exact Take1.head | apply Take1.tail)))) (fun w hw => read_any b v0 v1 x y hX hY hxl hyl w hw.left.here) rfl ?_ -- t12 (*hailer/disk.Disk).Read
  rintro ⟨a12, c12⟩ -
  dsimp only
  refine WL.y (Yl.move rfl) rfl ?_ -- t10
  refine WL.y (Yl.extract rfl rfl) rfl ?_ -- t13
  refine WL.say (t := 13) (v' := .int .u64 (nwN x y)) rfl (by rfl) ?_
  refine WL.y (Yl.extract rfl rfl) rfl ?_ -- t14
  refine WL.say (t := 14) (v' := .slice a12 (nwB x y).length c12) rfl (by rfl) ?_
  refine WL.y (Yl.extract rfl rfl) rfl ?_ -- t15
  refine WL.say (t := 15) (v' := .int .i64 (rdE x y)) rfl (by rfl) ?_
  refine WL.y (Yl.assign rfl) rfl ?_ -- t7
  refine WL.y (Yl.assign rfl) rfl ?_ -- t8
  refine WL.y (Yl.assign rfl) rfl ?_ -- t9
  refine WL.nil ?_
  refine WC.seq ?_
  refine WC.region ?_
  refine WL.y (Yl.move rfl) rfl ?_ -- t16
  refine WL.y (Yl.move rfl) rfl ?_ -- t17
  refine WL.y (Yl.eql rfl rfl) rfl ?_ -- t18
  refine WL.y (Yl.move rfl) rfl ?_ -- t19
  refine WL.both (t := 19) rfl (fun g19 => ?_) (fun g19 => ?_)
  · refine WL.on rfl rfl ?_
    refine WL.y (Yl.move rfl) rfl ?_ -- t20
    refine WL.on rfl rfl ?_
    refine WL.y (Yl.toStr un22 un5 un9 rfl (Reads.of (r := rdR (.slice a12 (nwB x y).length c12) 1 (nwB x y).length (ints .u8 (nwB x y))) RdOf.rd' (by repeat (first | exact Take1.head | apply Take1.tail)))) rfl ?_ -- t21
    refine WL.on rfl rfl ?_
    refine WL.y (Yl.move rfl) rfl ?_ -- t22
    refine WL.on rfl rfl ?_
    refine WL.y (Yl.sEq rfl rfl) rfl ?_ -- t23
    refine WL.say (t := 23) (v' := .bool (decide (nwB x y = t))) rfl (by (refine congrArg _ ?_; exact strEq hnb hT)) ?_
    refine WL.y (Yl.pickT rfl rfl) rfl ?_ -- t24
    refine WL.y (Yl.move rfl) rfl ?_ -- t25
    refine WL.both (t := 25) rfl (fun g25 => ?_) (fun g25 => ?_)
    · refine WL.on rfl rfl ?_
      refine WL.y (Yl.move rfl) rfl ?_ -- t26
      refine WL.on rfl rfl ?_
      refine WL.y (Yl.eql rfl rfl) rfl ?_ -- t27
      refine WL.y (Yl.pickT rfl rfl) rfl ?_ -- t28
      refine WL.y (Yl.assign rfl) rfl ?_ -- t6
      refine WL.nil ?_
      refine WC.ret ?_
      repeat (first | (with_reducible refine peelT ?_) | (with_reducible refine peelB ?_) | (with_reducible refine peelTX ?_) | (with_reducible refine peelBX ?_) | (with_reducible refine peelBN ?_) | (with_reducible refine peelBO rfl ?_))
      first
      | exact ret1 (.inr rfl) Try.results14 rfl fun w' h => ⟨(), trivial, by rw [g19, g25]; simp, h.sub (by repeat (first | exact TakeL.nil | (apply TakeL.cons; · repeat (first | exact Take1.head | apply Take1.tail))))⟩
      | exact ret1 (.inr rfl) Try.results14 rfl fun w' h => ⟨(), trivial, by rw [g19, g25]; simp, h.sub (by repeat (first | exact TakeL.nil | (apply TakeL.cons; · repeat (first | exact Take1.head | apply Take1.tail))))⟩
      | exact ret1 (.inr rfl) Try.results14 rfl fun w' h => ⟨(), trivial, by rw [g19]; simp, h.sub (by repeat (first | exact TakeL.nil | (apply TakeL.cons; · repeat (first | exact Take1.head | apply Take1.tail))))⟩
    · refine WL.off rfl rfl rfl rfl ?_ -- t26
      refine WL.off rfl rfl rfl rfl ?_ -- t27
      refine WL.y (Yl.pickF rfl rfl) rfl ?_ -- t28
      refine WL.y (Yl.assign rfl) rfl ?_ -- t6
      refine WL.nil ?_
      refine WC.ret ?_
      repeat (first | (with_reducible refine peelT ?_) | (with_reducible refine peelB ?_) | (with_reducible refine peelTX ?_) | (with_reducible refine peelBX ?_) | (with_reducible refine peelBN ?_) | (with_reducible refine peelBO rfl ?_))
      first
      | exact ret1 (.inr rfl) Try.results14 rfl fun w' h => ⟨(), trivial, by rw [g19, g25]; simp, h.sub (by repeat (first | exact TakeL.nil | (apply TakeL.cons; · repeat (first | exact Take1.head | apply Take1.tail))))⟩
      | exact ret1 (.inr rfl) Try.results14 rfl fun w' h => ⟨(), trivial, by rw [g19, g25]; simp, h.sub (by repeat (first | exact TakeL.nil | (apply TakeL.cons; · repeat (first | exact Take1.head | apply Take1.tail))))⟩
      | exact ret1 (.inr rfl) Try.results14 rfl fun w' h => ⟨(), trivial, by rw [g19]; simp, h.sub (by repeat (first | exact TakeL.nil | (apply TakeL.cons; · repeat (first | exact Take1.head | apply Take1.tail))))⟩
  · refine WL.off rfl rfl rfl rfl ?_ -- t20
    refine WL.off rfl rfl rfl rfl ?_ -- t21
    refine WL.off rfl rfl rfl rfl ?_ -- t22
    refine WL.off rfl rfl rfl rfl ?_ -- t23
    refine WL.y (Yl.pickF rfl rfl) rfl ?_ -- t24
    refine WL.y (Yl.move rfl) rfl ?_ -- t25
    refine WL.off rfl rfl rfl rfl ?_ -- t26
    refine WL.off rfl rfl rfl rfl ?_ -- t27
    refine WL.y (Yl.pickF rfl rfl) rfl ?_ -- t28
    refine WL.y (Yl.assign rfl) rfl ?_ -- t6
    refine WL.nil ?_
    refine WC.ret ?_
    repeat (first | (with_reducible refine peelT ?_) | (with_reducible refine peelB ?_) | (with_reducible refine peelTX ?_) | (with_reducible refine peelBX ?_) | (with_reducible refine peelBN ?_) | (with_reducible refine peelBO rfl ?_))
    first
    | exact ret1 (.inr rfl) Try.results14 rfl fun w' h => ⟨(), trivial, by rw [g19, g25]; simp, h.sub (by repeat (first | exact TakeL.nil | (apply TakeL.cons; · repeat (first | exact Take1.head | apply Take1.tail))))⟩
    | exact ret1 (.inr rfl) Try.results14 rfl fun w' h => ⟨(), trivial, by rw [g19, g25]; simp, h.sub (by repeat (first | exact TakeL.nil | (apply TakeL.cons; · repeat (first | exact Take1.head | apply Take1.tail))))⟩
    | exact ret1 (.inr rfl) Try.results14 rfl fun w' h => ⟨(), trivial, by rw [g19]; simp, h.sub (by repeat (first | exact TakeL.nil | (apply TakeL.cons; · repeat (first | exact Take1.head | apply Take1.tail))))⟩

theorem heavy_any (fs : List Dw) (v v0 v1 : Value) (x y : List Int) (hsz : ∀ f ∈ fs, f.b.length ≤ 140737488355328) (hxl : x.length ≤ 140737488355328) (hyl : y.length ≤ 140737488355328) (w : World) (hx : DwS w (fpL []) v fs) (h0 : RdS w (fpL []) v0 1 x.length (ints .u8 x)) (h1 : RdS w (fpL []) v1 1 y.length (ints .u8 y)) (hw : OK w (fpL []) [] w) :
    Fn Try.prog 5 [v, .agg [v0, v1].toArray] [] w (fun hv : Bool => hv = false → x.length + y.length + tot fs ≤ 4000) (fun hv => .bool hv) (fun _ => []) := by
  obtain ⟨al, cl, rfl, hcl, hml⟩ := hx.rows.rd.form
  obtain ⟨a0, c0, rfl, hc0, hm0⟩ := h0.rd.form
  obtain ⟨a1, c1, rfl, hc1, hm1⟩ := h1.rd.form
  unfold maxLen at hml
  refine enterF Try.func5 rfl Try.ntmps5 rfl hw ?_
  refine WC.seq ?_
  refine WC.region ?_
  refine WL.to (To.box (cs := [.slice a0 x.length c0, .slice a1 y.length c1]) rfl rfl) rfl ?_ -- t3
  intro b3
  refine WL.y (Yl.assign rfl) rfl ?_ -- t4
  refine WL.nil ?_
  refine WC.seq ?_
  refine WC.region ?_
  refine WL.y (Yl.indexA (j := 0) un23 sz22 rfl rfl rfl (by omega)) rfl ?_ -- t8
  refine WL.y (Yl.load on22 rfl (by repeat (first | exact Take1.head | apply Take1.tail)) (by rfl)) rfl ?_ -- t9
  refine WL.y (Yl.len un22 rfl) rfl ?_ -- t10
  refine WL.y (Yl.indexA (j := 1) un23 sz22 rfl rfl rfl (by omega)) rfl ?_ -- t11
  refine WL.y (Yl.load on22 rfl (by repeat (first | exact Take1.head | apply Take1.tail)) (by rfl)) rfl ?_ -- t12
  refine WL.y (Yl.len un22 rfl) rfl ?_ -- t13
  refine WL.y (Yl.add rfl rfl (IntWalk.i64_in _ (by omega))) rfl ?_ -- t14
  refine WL.say (t := 14) (v' := .int .i64 ((x.length + y.length + tot (fs.take 0) : Nat) : Int)) rfl (by (refine congrArg _ ?_; simp [tot])) ?_
  refine WL.y (Yl.assign rfl) rfl ?_ -- t5
  refine WL.nil ?_
  refine WC.seq ?_
  refine WC.seq ?_
  refine WC.region ?_
  refine WL.y (Yl.move rfl) rfl ?_ -- t15
  refine WL.y (Yl.len un24 rfl) rfl ?_ -- t16
  refine WL.y (Yl.move rfl) rfl ?_ -- t17
  refine WL.nil ?_
  refine WC.block ?_
  refine WC.loop (α := Nat) (fun j => [(15, .slice al fs.length cl), (16, .int .i64 (fs.length : Int)), (17, .int .i64 (j : Int)), (5, .int .i64 ((x.length + y.length + tot (fs.take j) : Nat) : Int))]) (fun _ => []) (fun j => j ≤ fs.length ∧ x.length + y.length + tot (fs.take j) ≤ 281474976710656) (fun j => fs.length - j) 0 ⟨Nat.zero_le _, by simp [tot]; omega⟩ ⟨(by repeat (first | exact Sub.nil | refine Sub.cons rfl ?_)), _, (by repeat (first | exact TakeL.nil | (apply TakeL.cons; · repeat (first | exact Take1.head | apply Take1.tail))))⟩ ?_
  rintro j ⟨hj, hj3⟩
  refine WC.seq ?_
  refine WC.region ?_
  refine WL.y (Yl.lss rfl rfl) rfl ?_ -- t18
  refine WL.nil ?_
  refine WC.seq ?_
  refine WC.condD rfl (fun g18 => ?_) (fun g18 => ?_)
  · refine WC.skip ?_
    refine WC.seq ?_
    refine WC.block ?_
    refine WC.seq ?_
    refine WC.region ?_
    have hjl : j < fs.length := by omega
    obtain ⟨f, hfj⟩ : ∃ f, fs[j]? = some f := ⟨_, List.getElem?_eq_getElem hjl⟩
    have hfs := hsz f (List.mem_of_getElem? hfj)
    have htk := tot_take hfj
    refine WL.y (Yl.index un24 sz30 rfl rfl (Reads.s hx.rows) rfl (by omega)) rfl ?_ -- t19
    refine WL.y (Yl.loadV (j := j) (u := f) dwV dwAll rfl (Reads.s hx.rows) rfl hfj) rfl ?_
    refine WL.to (To.alloc (cs := [.int .u8 0, .slice none 0 0, .int .i64 0, .int .i64 0, .int .i64 0, .int .u8 0]) zr30 rfl) rfl ?_ -- t7
    intro b7
    refine WL.sto (Sto.agg sz30 rfl rfl (by repeat (first | exact Take1.head | apply Take1.tail)) (Dw.ones f) rfl (by rfl) (show _ = f.cells from rfl)) (fun _ h => nomatch h) ?_ -- st 1
    refine WL.nil ?_
    refine WC.seq ?_
    refine WC.region ?_
    refine WL.y (Yl.move rfl) rfl ?_ -- t21
    refine WL.y (Yl.field fo30_1 rfl) rfl ?_ -- t22
    refine WL.y (Yl.load on22 rfl (by repeat (first | exact Take1.head | apply Take1.tail)) (by rfl)) rfl ?_ -- t23
    refine WL.y (Yl.len un22 rfl) rfl ?_ -- t24
    refine WL.y (Yl.add rfl rfl (IntWalk.i64_in _ (by omega))) rfl ?_ -- t25
    refine WL.y (Yl.add rfl rfl (IntWalk.i64_in _ (by omega))) rfl ?_ -- t26
    refine WL.say (t := 26) (v' := .int .i64 ((x.length + y.length + tot (fs.take (j + 1)) : Nat) : Int)) rfl (by (refine congrArg _ ?_; omega)) ?_
    refine WL.y (Yl.assign rfl) rfl ?_ -- t5
    refine WL.nil ?_
    refine WC.seq ?_
    refine WC.region ?_
    refine WL.y (Yl.move rfl) rfl ?_ -- t27
    refine WL.y (Yl.gtr rfl rfl) rfl ?_ -- t28
    refine WL.nil ?_
    refine WC.condD rfl (fun g28 => ?_) (fun g28 => ?_)
    · refine WC.seq ?_
      refine WC.region ?_
      refine WL.y (Yl.assign rfl) rfl ?_ -- t4
      refine WL.nil ?_
      refine WC.ret ?_
      repeat (first | (with_reducible refine peelT ?_) | (with_reducible refine peelB ?_) | (with_reducible refine peelTX ?_) | (with_reducible refine peelBX ?_) | (with_reducible refine peelBN ?_) | (with_reducible refine peelBO rfl ?_))
      exact ret1 (.inr rfl) Try.results5 rfl fun w' h => ⟨true, (fun h => nomatch h), rfl, h.sub (by repeat (first | exact TakeL.nil | (apply TakeL.cons; · repeat (first | exact Take1.head | apply Take1.tail))))⟩
    · refine WC.skip ?_
      refine WC.region ?_
      refine WL.y (Yl.add rfl rfl (IntWalk.i64_in _ (by omega))) rfl ?_ -- t29
      refine WL.y (Yl.move rfl) rfl ?_ -- t17
      refine WL.nil ?_
      exact ⟨rfl, j + 1, ⟨by omega, by omega⟩, by omega, (by repeat (first | exact Sub.nil | refine Sub.cons rfl ?_)), _, (by repeat (first | exact TakeL.nil | (apply TakeL.cons; · repeat (first | exact Take1.head | apply Take1.tail))))⟩
  · refine WC.exit ?_
    refine WC.seq ?_
    refine WC.region ?_
    refine WL.y (Yl.move rfl) rfl ?_ -- t30
    refine WL.y (Yl.gtr rfl rfl) rfl ?_ -- t31
    refine WL.y (Yl.assign rfl) rfl ?_ -- t4
    refine WL.nil ?_
    refine WC.ret ?_
    repeat (first | (with_reducible refine peelT ?_) | (with_reducible refine peelB ?_) | (with_reducible refine peelTX ?_) | (with_reducible refine peelBX ?_) | (with_reducible refine peelBN ?_) | (with_reducible refine peelBO rfl ?_))
    have hj2 : j = fs.length := by omega
    exact ret1 (.inr rfl) Try.results5 rfl fun w' h => ⟨_, (fun h => by have := of_decide_eq_false h; rw [hj2, List.take_length] at this; omega), rfl, h.sub (by repeat (first | exact TakeL.nil | (apply TakeL.cons; · repeat (first | exact Take1.head | apply Take1.tail))))⟩

set_option maxHeartbeats 1600000 in
set_option maxRecDepth 100000 in
theorem dknown_any (w : World) (hw : OK w (fpL []) [] w) : Fn Try.prog 4 [] [] w (fun _ : Unit => True) (fun _ => .bool true) (fun _ => []) := by
  obtain ⟨A, B, D, K⟩ := kn_all
  obtain ⟨hA, hB, hD⟩ := K.b
  obtain ⟨lA, lB, lD⟩ := K.l
  obtain ⟨f00, f01, f02⟩ := K.f0
  obtain ⟨f10, f11, f12, f13⟩ := K.f1
  obtain ⟨f20, f21, f22, f23⟩ := K.f2
  obtain ⟨f30, f31, f32⟩ := K.f3
  obtain ⟨f40, f41, f42, f43⟩ := K.f4
  obtain ⟨f50, f51, f52, f53⟩ := K.f5
  obtain ⟨f60, f61, f62⟩ := K.f6
  have hN : Bytes [] := fun z hz => nomatch hz
  refine enterF Try.func4 rfl Try.ntmps4 rfl hw ?_
  refine WC.seq ?_
  refine WC.region ?_
  refine WL.y (Yl.assign rfl) rfl ?_ -- t0
  refine WL.nil ?_
  refine WC.seq ?_
  refine WC.region ?_
  refine WL.callC (xs := []) (cap := []) rfl rfl en13 (by repeat (first | exact TakeL.nil | (apply TakeL.cons; · repeat (first | exact Take1.head | apply Take1.tail)))) (fun w hw => new_any w hw.left.here) rfl ?_ -- t17 hailer/disk.New
  intro bd _
  refine WL.y (Yl.assign rfl) rfl ?_ -- t1
  refine WL.nil ?_
  refine WC.seq ?_
  refine WC.region ?_
  refine WL.y (Yl.move rfl) rfl ?_ -- t19
  refine WL.callC (xs := [.tmp 19]) (cap := []) rfl rfl en11 (by repeat (first | exact TakeL.nil | (apply TakeL.cons; · repeat (first | exact Take1.head | apply Take1.tail)))) (fun w hw => read_any bd (.slice none 0 0) (.slice none 0 0) [] [] hN hN (by decide) (by decide) w hw.left.here) rfl ?_ -- t20 (*hailer/disk.Disk).Read
  rintro ⟨a20, c20⟩ -
  dsimp only
  rw [f00, f01, f02]
  refine WL.y (Yl.move rfl) rfl ?_ -- t18
  refine WL.y (Yl.extract rfl rfl) rfl ?_ -- t21
  refine WL.y (Yl.extract rfl rfl) rfl ?_ -- t22
  refine WL.y (Yl.extract rfl rfl) rfl ?_ -- t23
  refine WL.y (Yl.assign rfl) rfl ?_ -- t2
  refine WL.y (Yl.assign rfl) rfl ?_ -- t3
  refine WL.y (Yl.assign rfl) rfl ?_ -- t4
  refine WL.nil ?_
  refine WC.seq ?_
  refine WC.region ?_
  refine WL.y (Yl.move rfl) rfl ?_ -- t25
  refine WL.to (To.buildSlice (vs := [.int .u8 97]) un22 zs5 rfl rfl (by simp [Value.cells]) (by decide) (by decide)) rfl ?_ -- t26
  intro b26
  refine WL.to (To.convMark un22 un5 rfl (by repeat (first | exact Take1.head | apply Take1.tail)) rfl (by decide)) rfl ?_ -- t27
  rintro ⟨⟩
  refine WL.callC (xs := [.tmp 25, .tmp 27, _]) (cap := []) rfl rfl en7 (by repeat (first | exact TakeL.nil | (apply TakeL.cons; · repeat (first | exact Take1.head | apply Take1.tail)))) (fun w hw => write_any bd (.slice none 0 0) (.slice none 0 0) [] [] [97] (.slice (some ⟨b26, 0, none⟩) 1 1) (-1) hN hN (by decide) (by decide) (by decide) w (hw.src (r := rdR (.slice (some ⟨b26, 0, none⟩) 1 1) 1 1 (ints .u8 [97])) RdOf.rd' (by repeat (first | exact Take1.head | apply Take1.tail))) hw.left.here) rfl ?_ -- t28 (*hailer/disk.Disk).Write
  rintro ⟨⟨a28, c28⟩, ⟨d28, e28⟩⟩ -
  dsimp only
  rw [f10, f11, f12, f13]
  refine WL.y (Yl.move rfl) rfl ?_ -- t24
  refine WL.y (Yl.extract rfl rfl) rfl ?_ -- t29
  refine WL.y (Yl.extract rfl rfl) rfl ?_ -- t30
  refine WL.y (Yl.assign rfl) rfl ?_ -- t5
  refine WL.y (Yl.assign rfl) rfl ?_ -- t6
  refine WL.nil ?_
  refine WC.seq ?_
  refine WC.region ?_
  refine WL.y (Yl.move rfl) rfl ?_ -- t32
  refine WL.to (To.buildSlice (vs := [.int .u8 98]) un22 zs5 rfl rfl (by simp [Value.cells]) (by decide) (by decide)) rfl ?_ -- t33
  intro b33
  refine WL.to (To.convMark un22 un5 rfl (by repeat (first | exact Take1.head | apply Take1.tail)) rfl (by decide)) rfl ?_ -- t34
  rintro ⟨⟩
  refine WL.callC (xs := [.tmp 32, .tmp 34, _]) (cap := []) rfl rfl en7 (by repeat (first | exact TakeL.nil | (apply TakeL.cons; · repeat (first | exact Take1.head | apply Take1.tail)))) (fun w hw => write_any bd (.slice a28 A.length c28) (.slice d28 [].length e28) A [] [98] (.slice (some ⟨b33, 0, none⟩) 1 1) (-1) hA hN (by omega) (by decide) (by decide) w (hw.src (r := rdR (.slice (some ⟨b33, 0, none⟩) 1 1) 1 1 (ints .u8 [98])) RdOf.rd' (by repeat (first | exact Take1.head | apply Take1.tail))) hw.left.here) rfl ?_ -- t35 (*hailer/disk.Disk).Write
  rintro ⟨⟨a35, c35⟩, ⟨d35, e35⟩⟩ -
  dsimp only
  rw [f20, f21, f22, f23]
  refine WL.y (Yl.move rfl) rfl ?_ -- t31
  refine WL.y (Yl.extract rfl rfl) rfl ?_ -- t36
  refine WL.y (Yl.extract rfl rfl) rfl ?_ -- t37
  refine WL.y (Yl.assign rfl) rfl ?_ -- t7
  refine WL.y (Yl.assign rfl) rfl ?_ -- t8
  refine WL.nil ?_
  refine WC.seq ?_
  refine WC.seq ?_
  refine WC.region ?_
  refine WL.y (Yl.move rfl) rfl ?_ -- t38
  refine WL.y (Yl.neq rfl rfl) rfl ?_ -- t39
  refine WL.know (t := 39) (b' := false) rfl (by first | rfl | (simp; done) | (simp; omega)) ?_
  refine WL.y (Yl.move rfl) rfl ?_ -- t40
  refine WL.on rfl rfl ?_
  refine WL.y (Yl.move rfl) rfl ?_ -- t41
  refine WL.on rfl rfl ?_
  refine WL.y (Yl.neq rfl rfl) rfl ?_ -- t42
  refine WL.know (t := 42) (b' := false) rfl (by first | rfl | (simp; done) | (simp; omega)) ?_
  refine WL.y (Yl.pickF rfl rfl) rfl ?_ -- t43
  refine WL.y (Yl.move rfl) rfl ?_ -- t44
  refine WL.on rfl rfl ?_
  refine WL.y (Yl.move rfl) rfl ?_ -- t45
  refine WL.on rfl rfl ?_
  refine WL.y (Yl.neq rfl rfl) rfl ?_ -- t46
  refine WL.know (t := 46) (b' := false) rfl (by first | rfl | (simp; done) | (simp; omega)) ?_
  refine WL.y (Yl.pickF rfl rfl) rfl ?_ -- t47
  refine WL.y (Yl.move rfl) rfl ?_ -- t48
  refine WL.on rfl rfl ?_
  refine WL.y (Yl.move rfl) rfl ?_ -- t49
  refine WL.on rfl rfl ?_
  refine WL.y (Yl.neq rfl rfl) rfl ?_ -- t50
  refine WL.know (t := 50) (b' := false) rfl (by first | rfl | (simp; done) | (simp; omega)) ?_
  refine WL.y (Yl.pickF rfl rfl) rfl ?_ -- t51
  refine WL.y (Yl.move rfl) rfl ?_ -- t52
  refine WL.on rfl rfl ?_
  refine WL.y (Yl.move rfl) rfl ?_ -- t53
  refine WL.on rfl rfl ?_
  refine WL.y (Yl.neq rfl rfl) rfl ?_ -- t54
  refine WL.know (t := 54) (b' := false) rfl (by first | rfl | (simp; done) | (simp; omega)) ?_
  refine WL.y (Yl.pickF rfl rfl) rfl ?_ -- t55
  refine WL.y (Yl.move rfl) rfl ?_ -- t56
  refine WL.on rfl rfl ?_
  refine WL.y (Yl.move rfl) rfl ?_ -- t57
  refine WL.on rfl rfl ?_
  refine WL.callC (xs := [.tmp 57, _, _]) (cap := []) rfl rfl en14 (by repeat (first | exact TakeL.nil | (apply TakeL.cons; · repeat (first | exact Take1.head | apply Take1.tail)))) (fun w hw => reads_any bd (.slice a35 A.length c35) (.slice d35 B.length e35) A B [98] 2 _ rfl hA hB (one_by (by decide)) (by omega) (by omega) w hw.left.here) rfl ?_ -- t58 hailer/hailerlaw34.reads
  rintro ⟨⟩ -
  refine WL.know (t := 58) (b' := true) rfl (by rw [f30, f31, f32]; simp) ?_
  refine WL.on rfl rfl ?_
  refine WL.y (Yl.not rfl) rfl ?_ -- t59
  refine WL.y (Yl.pickF rfl rfl) rfl ?_ -- t60
  refine WL.nil ?_
  refine WC.condF rfl (by first | rfl | (simp; done) | (simp; omega)) ?_
  refine WC.skip ?_
  refine WC.seq ?_
  refine WC.region ?_
  refine WL.y (Yl.move rfl) rfl ?_ -- t62
  refine WL.to (To.buildSlice (vs := [.int .u8 99]) un22 zs5 rfl rfl (by simp [Value.cells]) (by decide) (by decide)) rfl ?_ -- t63
  intro b63
  refine WL.to (To.convMark un22 un5 rfl (by repeat (first | exact Take1.head | apply Take1.tail)) rfl (by decide)) rfl ?_ -- t64
  rintro ⟨⟩
  refine WL.callC (xs := [.tmp 62, .tmp 64, _]) (cap := []) rfl rfl en7 (by repeat (first | exact TakeL.nil | (apply TakeL.cons; · repeat (first | exact Take1.head | apply Take1.tail)))) (fun w hw => write_any bd (.slice a35 A.length c35) (.slice d35 B.length e35) A B [99] (.slice (some ⟨b63, 0, none⟩) 1 1) 5 hA hB (by omega) (by omega) (by decide) w (hw.src (r := rdR (.slice (some ⟨b63, 0, none⟩) 1 1) 1 1 (ints .u8 [99])) RdOf.rd' (by repeat (first | exact Take1.head | apply Take1.tail))) hw.left.here) rfl ?_ -- t65 (*hailer/disk.Disk).Write
  rintro ⟨⟨a65, c65⟩, ⟨d65, e65⟩⟩ -
  dsimp only
  rw [f40, f41, f42, f43]
  refine WL.y (Yl.move rfl) rfl ?_ -- t61
  refine WL.y (Yl.extract rfl rfl) rfl ?_ -- t66
  refine WL.y (Yl.extract rfl rfl) rfl ?_ -- t67
  refine WL.y (Yl.assign rfl) rfl ?_ -- t9
  refine WL.y (Yl.assign rfl) rfl ?_ -- t10
  refine WL.nil ?_
  refine WC.seq ?_
  refine WC.seq ?_
  refine WC.region ?_
  refine WL.y (Yl.move rfl) rfl ?_ -- t68
  refine WL.y (Yl.neq rfl rfl) rfl ?_ -- t69
  refine WL.know (t := 69) (b' := false) rfl (by first | rfl | (simp; done) | (simp; omega)) ?_
  refine WL.y (Yl.move rfl) rfl ?_ -- t70
  refine WL.on rfl rfl ?_
  refine WL.y (Yl.move rfl) rfl ?_ -- t71
  refine WL.on rfl rfl ?_
  refine WL.y (Yl.neq rfl rfl) rfl ?_ -- t72
  refine WL.know (t := 72) (b' := false) rfl (by first | rfl | (simp; done) | (simp; omega)) ?_
  refine WL.y (Yl.pickF rfl rfl) rfl ?_ -- t73
  refine WL.y (Yl.move rfl) rfl ?_ -- t74
  refine WL.on rfl rfl ?_
  refine WL.y (Yl.move rfl) rfl ?_ -- t75
  refine WL.on rfl rfl ?_
  refine WL.callC (xs := [.tmp 75, _, _]) (cap := []) rfl rfl en14 (by repeat (first | exact TakeL.nil | (apply TakeL.cons; · repeat (first | exact Take1.head | apply Take1.tail)))) (fun w hw => reads_any bd (.slice a65 A.length c65) (.slice d65 B.length e65) A B [98] 2 _ rfl hA hB (one_by (by decide)) (by omega) (by omega) w hw.left.here) rfl ?_ -- t76 hailer/hailerlaw34.reads
  rintro ⟨⟩ -
  refine WL.know (t := 76) (b' := true) rfl (by rw [f30, f31, f32]; simp) ?_
  refine WL.on rfl rfl ?_
  refine WL.y (Yl.not rfl) rfl ?_ -- t77
  refine WL.y (Yl.pickF rfl rfl) rfl ?_ -- t78
  refine WL.nil ?_
  refine WC.condF rfl (by first | rfl | (simp; done) | (simp; omega)) ?_
  refine WC.skip ?_
  refine WC.seq ?_
  refine WC.region ?_
  refine WL.y (Yl.move rfl) rfl ?_ -- t80
  refine WL.to (To.buildSlice (vs := [.int .u8 100]) un22 zs5 rfl rfl (by simp [Value.cells]) (by decide) (by decide)) rfl ?_ -- t81
  intro b81
  refine WL.to (To.convMark un22 un5 rfl (by repeat (first | exact Take1.head | apply Take1.tail)) rfl (by decide)) rfl ?_ -- t82
  rintro ⟨⟩
  refine WL.callC (xs := [.tmp 80, .tmp 82, _]) (cap := []) rfl rfl en7 (by repeat (first | exact TakeL.nil | (apply TakeL.cons; · repeat (first | exact Take1.head | apply Take1.tail)))) (fun w hw => write_any bd (.slice a65 A.length c65) (.slice d65 B.length e65) A B [100] (.slice (some ⟨b81, 0, none⟩) 1 1) (-1) hA hB (by omega) (by omega) (by decide) w (hw.src (r := rdR (.slice (some ⟨b81, 0, none⟩) 1 1) 1 1 (ints .u8 [100])) RdOf.rd' (by repeat (first | exact Take1.head | apply Take1.tail))) hw.left.here) rfl ?_ -- t83 (*hailer/disk.Disk).Write
  rintro ⟨⟨a83, c83⟩, ⟨d83, e83⟩⟩ -
  dsimp only
  rw [f50, f51, f52, f53]
  refine WL.y (Yl.move rfl) rfl ?_ -- t79
  refine WL.y (Yl.extract rfl rfl) rfl ?_ -- t84
  refine WL.y (Yl.extract rfl rfl) rfl ?_ -- t85
  refine WL.y (Yl.assign rfl) rfl ?_ -- t9
  refine WL.y (Yl.assign rfl) rfl ?_ -- t10
  refine WL.nil ?_
  refine WC.seq ?_
  refine WC.region ?_
  refine WL.y (Yl.assign rfl) rfl ?_ -- t11
  refine WL.nil ?_
  refine WC.seq ?_
  refine WC.region ?_
  refine WL.y (Yl.move rfl) rfl ?_ -- t87
  refine WL.callC (xs := [.tmp 87, _, _]) (cap := []) rfl rfl en7 (by repeat (first | exact TakeL.nil | (apply TakeL.cons; · repeat (first | exact Take1.head | apply Take1.tail)))) (fun w hw => write_nil (.slice none 0 0) (-1) w hw.left.here) rfl ?_ -- t88 (*hailer/disk.Disk).Write
  rintro ⟨⟩ -
  refine WL.y (Yl.move rfl) rfl ?_ -- t86
  refine WL.y (Yl.extract rfl rfl) rfl ?_ -- t89
  refine WL.y (Yl.extract rfl rfl) rfl ?_ -- t90
  refine WL.y (Yl.assign rfl) rfl ?_ -- t12
  refine WL.y (Yl.assign rfl) rfl ?_ -- t13
  refine WL.nil ?_
  refine WC.seq ?_
  refine WC.region ?_
  refine WL.y (Yl.move rfl) rfl ?_ -- t92
  refine WL.callC (xs := [.tmp 92]) (cap := []) rfl rfl en11 (by repeat (first | exact TakeL.nil | (apply TakeL.cons; · repeat (first | exact Take1.head | apply Take1.tail)))) (fun w hw => read_nil w hw.left.here) rfl ?_ -- t93 (*hailer/disk.Disk).Read
  rintro ⟨⟩ -
  refine WL.y (Yl.move rfl) rfl ?_ -- t91
  refine WL.y (Yl.extract rfl rfl) rfl ?_ -- t94
  refine WL.y (Yl.extract rfl rfl) rfl ?_ -- t95
  refine WL.y (Yl.extract rfl rfl) rfl ?_ -- t96
  refine WL.y (Yl.assign rfl) rfl ?_ -- t14
  refine WL.y (Yl.assign rfl) rfl ?_ -- t15
  refine WL.y (Yl.assign rfl) rfl ?_ -- t16
  refine WL.nil ?_
  refine WC.seq ?_
  refine WC.region ?_
  refine WL.y (Yl.move rfl) rfl ?_ -- t97
  refine WL.y (Yl.eql rfl rfl) rfl ?_ -- t98
  refine WL.know (t := 98) (b' := true) rfl (by first | rfl | (simp; done) | (simp; omega)) ?_
  refine WL.y (Yl.move rfl) rfl ?_ -- t99
  refine WL.on rfl rfl ?_
  refine WL.y (Yl.move rfl) rfl ?_ -- t100
  refine WL.on rfl rfl ?_
  refine WL.y (Yl.eql rfl rfl) rfl ?_ -- t101
  refine WL.know (t := 101) (b' := true) rfl (by first | rfl | (simp; done) | (simp; omega)) ?_
  refine WL.y (Yl.pickT rfl rfl) rfl ?_ -- t102
  refine WL.y (Yl.move rfl) rfl ?_ -- t103
  refine WL.on rfl rfl ?_
  refine WL.y (Yl.move rfl) rfl ?_ -- t104
  refine WL.on rfl rfl ?_
  refine WL.callC (xs := [.tmp 104, _, _]) (cap := []) rfl rfl en14 (by repeat (first | exact TakeL.nil | (apply TakeL.cons; · repeat (first | exact Take1.head | apply Take1.tail)))) (fun w hw => reads_any bd (.slice a83 D.length c83) (.slice d83 B.length e83) D B [100] 3 _ rfl hD hB (one_by (by decide)) (by omega) (by omega) w hw.left.here) rfl ?_ -- t105 hailer/hailerlaw34.reads
  rintro ⟨⟩ -
  refine WL.know (t := 105) (b' := true) rfl (by rw [f60, f61, f62]; simp) ?_
  refine WL.y (Yl.pickT rfl rfl) rfl ?_ -- t106
  refine WL.y (Yl.move rfl) rfl ?_ -- t107
  refine WL.on rfl rfl ?_
  refine WL.y (Yl.move rfl) rfl ?_ -- t108
  refine WL.on rfl rfl ?_
  refine WL.y (Yl.eql rfl rfl) rfl ?_ -- t109
  refine WL.know (t := 109) (b' := true) rfl (by first | rfl | (simp; done) | (simp; omega)) ?_
  refine WL.y (Yl.pickT rfl rfl) rfl ?_ -- t110
  refine WL.y (Yl.move rfl) rfl ?_ -- t111
  refine WL.on rfl rfl ?_
  refine WL.y (Yl.move rfl) rfl ?_ -- t112
  refine WL.on rfl rfl ?_
  refine WL.y (Yl.eql rfl rfl) rfl ?_ -- t113
  refine WL.know (t := 113) (b' := true) rfl (by first | rfl | (simp; done) | (simp; omega)) ?_
  refine WL.y (Yl.pickT rfl rfl) rfl ?_ -- t114
  refine WL.y (Yl.move rfl) rfl ?_ -- t115
  refine WL.on rfl rfl ?_
  refine WL.y (Yl.move rfl) rfl ?_ -- t116
  refine WL.on rfl rfl ?_
  refine WL.callC (xs := [.tmp 116, _, _, _]) (cap := []) rfl rfl en9 (by repeat (first | exact TakeL.nil | (apply TakeL.cons; · repeat (first | exact Take1.head | apply Take1.tail)))) (fun w hw => spoil_nil 0 0 1 w hw.left.here) rfl ?_ -- t117 (*hailer/disk.Disk).Spoil
  rintro ⟨⟩ -
  refine WL.on rfl rfl ?_
  refine WL.y (Yl.eql rfl rfl) rfl ?_ -- t118
  refine WL.know (t := 118) (b' := true) rfl (by first | rfl | (simp; done) | (simp; omega)) ?_
  refine WL.y (Yl.pickT rfl rfl) rfl ?_ -- t119
  refine WL.y (Yl.move rfl) rfl ?_ -- t120
  refine WL.on rfl rfl ?_
  refine WL.y (Yl.move rfl) rfl ?_ -- t121
  refine WL.on rfl rfl ?_
  refine WL.callC (xs := [.tmp 121]) (cap := []) rfl rfl en10 (by repeat (first | exact TakeL.nil | (apply TakeL.cons; · repeat (first | exact Take1.head | apply Take1.tail)))) (fun w hw => slots_nil w hw.left.here) rfl ?_ -- t122 (*hailer/disk.Disk).Slots
  rintro ⟨⟩ -
  refine WL.on rfl rfl ?_
  refine WL.y (Yl.idx (j := 0) un23 sz22 on22 rfl rfl rfl (by omega) rfl) rfl ?_ -- t123
  refine WL.on rfl rfl ?_
  refine WL.y (Yl.len un22 rfl) rfl ?_ -- t124
  refine WL.on rfl rfl ?_
  refine WL.y (Yl.eql rfl rfl) rfl ?_ -- t125
  refine WL.know (t := 125) (b' := true) rfl (by first | rfl | (simp; done) | (simp; omega)) ?_
  refine WL.y (Yl.pickT rfl rfl) rfl ?_ -- t126
  refine WL.y (Yl.move rfl) rfl ?_ -- t127
  refine WL.on rfl rfl ?_
  refine WL.y (Yl.move rfl) rfl ?_ -- t128
  refine WL.on rfl rfl ?_
  refine WL.callC (xs := [.tmp 128, _, _, _]) (cap := []) rfl rfl en9 (by repeat (first | exact TakeL.nil | (apply TakeL.cons; · repeat (first | exact Take1.head | apply Take1.tail)))) (fun w hw => spoil_any bd (.slice a83 D.length c83) (.slice d83 B.length e83) D B 2 0 1 (by omega) (by omega) w hw.left.here) rfl ?_ -- t129 (*hailer/disk.Disk).Spoil
  rintro ⟨⟨a129, c129⟩, ⟨d129, e129⟩⟩ -
  refine WL.on rfl rfl ?_
  refine WL.y (Yl.eql rfl rfl) rfl ?_ -- t130
  refine WL.know (t := 130) (b' := true) rfl (by unfold spE spOk; rfl) ?_
  refine WL.y (Yl.pickT rfl rfl) rfl ?_ -- t131
  refine WL.y (Yl.assign rfl) rfl ?_ -- t0
  refine WL.nil ?_
  refine WC.ret ?_
  repeat (first | (with_reducible refine peelT ?_) | (with_reducible refine peelB ?_) | (with_reducible refine peelTX ?_) | (with_reducible refine peelBX ?_) | (with_reducible refine peelBN ?_) | (with_reducible refine peelBO rfl ?_))
  exact ret1 (.inr rfl) Try.results4 rfl fun w' h => ⟨(), trivial, rfl, h.sub (by repeat (first | exact TakeL.nil | (apply TakeL.cons; · repeat (first | exact Take1.head | apply Take1.tail))))⟩
end Go.Proofs.Ytjlgmaappebppaa
