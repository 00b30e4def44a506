/- A record's sum, a record, the whole record that bytes begin with: the walks. -/
import Derived.Test.YtjlgmaappebppaaDiskP
import Derived.Test.YtjlgmaappebppaaRecP
import Derived.Test.YtjlgmaappebppaaWireC
import Derived.Test.YtjlgmaappebppaaShaH
import Derived.Test.YtjlgmaappebppaaLibI
namespace Go.Proofs.Ytjlgmaappebppaa
open Go Go.RowKit

theorem pts1 (lim : Int) (s : List Int × Bool) (x : List Int) : pts lim s [x] = pt lim s x := rfl
theorem pts8 (lim : Int) (s : List Int × Bool) (x : Int) : pts lim s (b8 [x]) = pt lim s (be x 8) := rfl
theorem pts4 (lim : Int) (s : List Int × Bool) (x : Int) : pts lim s (b4 [x]) = pt lim s (be x 4) := rfl
theorem one1 {w : World} {T : Pm} {v : Value} {c : List Int} (h : RdS w T v 1 c.length (ints .u8 c)) : ∀ (i : Nat) (v' : Value) (c' : List Int), [v][i]? = some v' → [c][i]? = some c' → RdS w T v' 1 c'.length (ints .u8 c') := by
  intro i v' c' h1 h2
  cases i with
  | zero => cases h1; cases h2; exact h
  | succ i => simp at h1

set_option maxRecDepth 100000 in
theorem dsum_any (bs : List Int) (v : Value) (hl : bs.length ≤ 100000) (w : World) (hx : RdS w (fpL []) v 1 bs.length (ints .u8 bs)) (hw : OK w (fpL []) [] w) :
    Fn Try.prog 28 [v] [] w (fun _ : Nat => True) (fun b => .slice (some ⟨b, 0, none⟩) 8 32) (fun b => [rdR (.slice (some ⟨b, 0, none⟩) 8 32) 1 8 (ints .u8 ((sum256 bs).take 8))]) := by
  have h32 := sum256_len bs
  have hil : (ints .u8 (sum256 bs)).length = 32 := by rw [ints_length, h32]
  obtain ⟨al, cl, rfl, hcl, hml⟩ := hx.rd.form
  refine enterF Try.func28 rfl Try.ntmps28 rfl hw ?_
  refine WC.seq ?_
  refine WC.region ?_
  refine WL.y (Yl.assign rfl) rfl ?_ -- t2
  refine WL.nil ?_
  refine WC.seq ?_
  refine WC.region ?_
  refine WL.y (Yl.move rfl) rfl ?_ -- t4
  refine WL.to (To.buildSlice (vs := [.slice al bs.length cl]) un66 zs22 rfl rfl (by simp [Value.cells]) (by decide) (by decide)) rfl ?_ -- t5
  intro b5
  refine WL.callC (xs := [.tmp 5]) (cap := []) rfl rfl en40 (by repeat (first | exact TakeL.nil | (apply TakeL.cons; · repeat (first | exact Take1.head | apply Take1.tail)))) (fun w hw => (by have := sum256_any [bs] [.slice al bs.length cl] (.slice (some ⟨b5, 0, none⟩) 1 1) rfl (by simpa using hl) (by simp) w (hw.src (A := []) (RdOf.blk (cs := [.slice al bs.length cl]) (Nat.le_refl _) (by unfold maxLen; omega) (by simp) rfl) (by repeat (first | exact Take1.head | apply Take1.tail))) (one1 (hw.srcS (A := []) hx)) hw.left.here; rw [List.flatten_cons, List.flatten_nil, List.append_nil] at this; exact this)) rfl ?_ -- t6 hailer/sha.Sum256
  rintro ⟨⟩ -
  refine WL.to (To.alloc zr81 rfl) rfl ?_ -- t3
  intro b3
  refine WL.sto (Sto.agg sz81 rfl rfl (by repeat (first | exact Take1.head | apply Take1.tail)) (ints_one _ _) hil (by rfl) (putAll rfl)) (fun _ h => nomatch h) ?_ -- st 1
  refine WL.nil ?_
  refine WC.seq ?_
  refine WC.region ?_
  refine WL.view (fun w h => h.blkOwn (b := b3) (size := 1) (n := 32) (by repeat (first | exact Take1.head | apply Take1.tail)) (by unfold maxLen; omega) hil) ?_
  refine WL.y (Yl.sliceArrH (h := 8) un81 sz5 (by decide) rfl rfl (by omega)) rfl ?_ -- t7
  refine WL.y (Yl.assign rfl) rfl ?_ -- t2
  refine WL.nil ?_
  refine WC.ret ?_
  repeat (first | (with_reducible refine peelT ?_) | (with_reducible refine peelB ?_) | (with_reducible refine peelTX ?_) | (with_reducible refine peelBX ?_) | (with_reducible refine peelBN ?_) | (with_reducible refine peelBO rfl ?_))
  exact ret1 (.inr rfl) Try.results28 rfl fun w' h => ⟨b3, trivial, rfl, OK.sub (OK.readOnly (h.subG .head (l := 0) (hh := 8) (m := 32) (by omega) (by omega) (by omega) (by omega) (cs' := ints .u8 ((sum256 bs).take 8)) (by rw [← ints_take]; simp)) .head) (by repeat (first | exact TakeL.nil | (apply TakeL.cons; · repeat (first | exact Take1.head | apply Take1.tail))))⟩

theorem equal_any (xs ys : List Int) (v u : Value) (hX : Bytes xs) (hY : Bytes ys) (w : World) (hx : RdS w (fpL []) v 1 xs.length (ints .u8 xs)) (hy : RdS w (fpL []) u 1 ys.length (ints .u8 ys)) (hw : OK w (fpL []) [] w) :
    Fn Try.prog 36 [v, u] [] w (fun _ : Unit => True) (fun _ => .bool (decide (xs = ys))) (fun _ => []) := by
  refine enterF Try.func36 rfl Try.ntmps36 rfl hw ?_
  refine WC.seq ?_
  refine WC.region ?_
  refine WL.y (Yl.assign rfl) rfl ?_ -- t4
  refine WL.nil ?_
  refine WC.seq ?_
  refine WC.region ?_
  refine WL.y (Yl.move rfl) rfl ?_ -- t5
  refine WL.y (Yl.toStr un22 un5 un9 rfl (Reads.s hx)) rfl ?_ -- t6
  refine WL.y (Yl.move rfl) rfl ?_ -- t7
  refine WL.y (Yl.toStr un22 un5 un9 rfl (Reads.s hy)) rfl ?_ -- t8
  refine WL.y (Yl.sEq rfl rfl) rfl ?_ -- t9
  refine WL.y (Yl.assign rfl) rfl ?_ -- t4
  refine WL.nil ?_
  refine WC.ret ?_
  repeat (first | (with_reducible refine peelT ?_) | (with_reducible refine peelB ?_) | (with_reducible refine peelTX ?_) | (with_reducible refine peelBX ?_) | (with_reducible refine peelBN ?_) | (with_reducible refine peelBO rfl ?_))
  exact ret1 (.inr rfl) Try.results36 rfl fun w' h => ⟨(), trivial, by rw [strEq hX hY], h.sub (by repeat (first | exact TakeL.nil | (apply TakeL.cons; · repeat (first | exact Take1.head | apply Take1.tail))))⟩

theorem clone_any (xs : List Int) (v : Value) (hl : xs.length ≤ 140737488355328) (w : World) (hx : RdS w (fpL []) v 1 xs.length (ints .u8 xs)) (hw : OK w (fpL []) [] w) :
    Fn Try.prog 15 [v] [] w (fun _ : Option Addr × Nat => True) (fun y => .slice y.1 xs.length y.2) (fun y => [ownR (.slice y.1 xs.length y.2) 5 1 xs.length (ints .u8 xs)]) := by
  obtain ⟨al, cl, rfl, hcl, hml⟩ := hx.rd.form
  refine enterF Try.func15 rfl Try.ntmps15 rfl hw ?_
  refine WC.seq ?_
  refine WC.region ?_
  refine WL.y (Yl.assign rfl) rfl ?_ -- t2
  refine WL.nil ?_
  refine WC.seq ?_
  refine WC.seq ?_
  refine WC.region ?_
  refine WL.y (Yl.move rfl) rfl ?_ -- t3
  refine WL.y (Yl.eqNil un22 rfl rfl) rfl ?_
  refine WL.nil ?_
  refine WC.cond rfl (fun g4 => ?_) (fun g4 => ?_)
  · refine WC.seq ?_
    refine WC.region ?_
    refine WL.y (Yl.assign rfl) rfl ?_ -- t2
    refine WL.nil ?_
    refine WC.ret ?_
    repeat (first | (with_reducible refine peelT ?_) | (with_reducible refine peelB ?_) | (with_reducible refine peelTX ?_) | (with_reducible refine peelBX ?_) | (with_reducible refine peelBN ?_) | (with_reducible refine peelBO rfl ?_))
    have hn : al = none := by simpa using g4
    subst hn
    obtain ⟨rfl⟩ : xs = [] := by
      have hr := hx.rd
      rcases hr.2 with ⟨_, h0⟩ | ⟨a, c, he, _⟩
      · exact List.eq_nil_of_length_eq_zero h0
      · cases he
    exact ret1 (.inr rfl) Try.results15 rfl fun w' h => ⟨(none, 0), trivial, rfl, (h.addNil 5 1).sub (by repeat (first | exact TakeL.nil | (apply TakeL.cons; · repeat (first | exact Take1.head | apply Take1.tail))))⟩
  · refine WC.skip ?_
    refine WC.seq ?_
    refine WC.region ?_
    refine WL.to (To.buildSlice (vs := []) un22 zs5 rfl rfl (by simp [Value.cells]) (by decide) (by decide)) rfl ?_ -- t5
    intro b5
    refine WL.view (fun w h => h.blkOwn (b := b5) (size := 1) (n := 0) (by repeat (first | exact Take1.head | apply Take1.tail)) (by unfold maxLen; omega) rfl) ?_
    refine WL.y (Yl.move rfl) rfl ?_ -- t6
    refine WL.to (To.append sl22 rfl rfl (by repeat (first | exact Take1.head | apply Take1.tail)) (Reads.s hx) (ints_one _ _) (Nat.zero_add _) (by rfl) (by unfold maxLen; omega) (by omega)) rfl ?_ -- t7
    rintro ⟨⟨ao7, c7⟩, hc7⟩
    dsimp only at hc7 ⊢
    refine WL.y (Yl.assign rfl) rfl ?_ -- t2
    refine WL.nil ?_
    refine WC.ret ?_
    repeat (first | (with_reducible refine peelT ?_) | (with_reducible refine peelB ?_) | (with_reducible refine peelTX ?_) | (with_reducible refine peelBX ?_) | (with_reducible refine peelBN ?_) | (with_reducible refine peelBO rfl ?_))
    exact ret1 (.inr rfl) Try.results15 rfl fun w' h => ⟨(ao7, c7), trivial, rfl, h.sub (by repeat (first | exact TakeL.nil | (apply TakeL.cons; · repeat (first | exact Take1.head | apply Take1.tail))))⟩

set_option maxRecDepth 100000 in
theorem record_any (n : Int) (b : List Int) (v : Value) (hn : 0 ≤ n ∧ n < 18446744073709551616) (hl : b.length ≤ 90000) (w : World) (hx : RdS w (fpL []) v 1 b.length (ints .u8 b)) (hw : OK w (fpL []) [] w) :
    Fn Try.prog 18 [.int .u64 n, v] [] w (fun y : Option Addr × Nat => (recF n b).length ≤ y.2) (fun y => .slice y.1 (recF n b).length y.2) (fun y => [ownR (.slice y.1 (recF n b).length y.2) 5 1 (recF n b).length (ints .u8 (recF n b))]) := by
  obtain ⟨al, cl, rfl, hcl, hml⟩ := hx.rd.form
  have hlo : -9223372036854775808 ≤ (9223372036854775807 : Int) ∧ (9223372036854775807 : Int) ≤ 9223372036854775807 := by omega
  have f0 : Fit 9223372036854775807 (([] : List Int), false) := .inl rfl
  have e1 : pts 9223372036854775807 ([], false) [[72, 68]] = ([72, 68], false) := by
    rw [pts1, pt_ok (by simp)]; rfl
  have f1 : Fit 9223372036854775807 (([72, 68] : List Int), false) := .inr (by simp)
  have e2 : pts 9223372036854775807 ([72, 68], false) (b8 [n]) = ([72, 68] ++ be n 8, false) := by
    rw [pts8, pt_ok (by rw [be_len]; simp)]
  have l2 : ([72, 68] ++ be n 8).length = 10 := by simp [be_len]
  have f2 : Fit 9223372036854775807 ([72, 68] ++ be n 8, false) := .inr (by rw [l2]; omega)
  have e3 : pts 9223372036854775807 ([72, 68] ++ be n 8, false) (b4 [(b.length : Int)]) = ([72, 68] ++ be n 8 ++ be (b.length : Int) 4, false) := by
    rw [pts4, pt_ok (by rw [l2, be_len]; omega)]
  have l3 : ([72, 68] ++ be n 8 ++ be (b.length : Int) 4).length = 14 := by rw [List.length_append, l2, be_len]
  have f3 : Fit 9223372036854775807 ([72, 68] ++ be n 8 ++ be (b.length : Int) 4, false) := .inr (by rw [l3]; omega)
  have e4 : pts 9223372036854775807 ([72, 68] ++ be n 8 ++ be (b.length : Int) 4, false) [b] = (headF n b, false) := by
    rw [pts1, pt_ok (by rw [l3]; omega)]; rfl
  have l4 := headF_len n b
  have l5 := recF_len n b
  refine enterF Try.func18 rfl Try.ntmps18 rfl hw ?_
  refine WC.seq ?_
  refine WC.region ?_
  refine WL.y (Yl.assign rfl) rfl ?_ -- t4
  refine WL.nil ?_
  refine WC.seq ?_
  refine WC.region ?_
  refine WL.callC (xs := [_]) (cap := []) rfl rfl en23 (by repeat (first | exact TakeL.nil | (apply TakeL.cons; · repeat (first | exact Take1.head | apply Take1.tail)))) (fun w hw => newOut_any 9223372036854775807 w hw.left.here) rfl ?_ -- t8 hailer/wire.NewOut
  intro b8 _
  refine WL.y (Yl.assign rfl) rfl ?_ -- t5
  refine WL.nil ?_
  refine WC.seq ?_
  refine WC.region ?_
  refine WL.y (Yl.move rfl) rfl ?_ -- t9
  refine WL.to (To.buildSlice (vs := [.int .u8 72, .int .u8 68]) un22 zs5 rfl rfl (by simp [Value.cells]) (by decide) (by decide)) rfl ?_ -- t10
  intro b10
  refine WL.to (To.convMark un22 un5 rfl (by repeat (first | exact Take1.head | apply Take1.tail)) rfl (by decide)) rfl ?_ -- t11
  rintro ⟨⟩
  refine WL.to (To.buildSlice (vs := [.slice (some ⟨b10, 0, none⟩) 2 2]) un66 zs22 rfl rfl (by simp [Value.cells]) (by decide) (by decide)) rfl ?_ -- t12
  intro b12
  refine WL.callC (xs := [.tmp 9, .tmp 12]) (cap := []) rfl rfl en24 (by repeat (first | exact TakeL.nil | (apply TakeL.cons; · repeat (first | exact Take1.head | apply Take1.tail)))) (fun w hw => outFixed_any b8 (none, 0) 9223372036854775807 [] false [[72, 68]] [.slice (some ⟨b10, 0, none⟩) 2 2] (.slice (some ⟨b12, 0, none⟩) 1 1) rfl hlo f0 (by simp [total]) w (hw.src (RdOf.blk (cs := [.slice (some ⟨b10, 0, none⟩) 2 2]) (Nat.le_refl _) (by unfold maxLen; omega) (by simp) rfl) (by repeat (first | exact Take1.head | apply Take1.tail))) (one1 (c := [72, 68]) (hw.src RdOf.rd' (by repeat (first | exact Take1.head | apply Take1.tail)))) hw.left.here) rfl ?_ -- t13 (*hailer/wire.Out).Fixed
  intro y13 _
  rw [e1]
  dsimp only
  refine WL.nil ?_
  refine WC.seq ?_
  refine WC.region ?_
  refine WL.y (Yl.move rfl) rfl ?_ -- t14
  refine WL.y (Yl.move rfl) rfl ?_ -- t15
  refine WL.to (To.buildSlice (vs := [.int .u64 n]) un78 zs31 rfl rfl (by simp [Value.cells]) (by decide) (by decide)) rfl ?_ -- t16
  intro b16
  refine WL.callC (xs := [.tmp 14, .tmp 16]) (cap := []) rfl rfl en25 (by repeat (first | exact TakeL.nil | (apply TakeL.cons; · repeat (first | exact Take1.head | apply Take1.tail)))) (fun w hw => outU64_any b8 y13 9223372036854775807 [72, 68] false [n] (.slice (some ⟨b16, 0, none⟩) 1 1) hlo f1 (by simp [total, Go.Proofs.Ytjlgmaappebppaa.b8, be_len]) (by intro x hx; simp at hx; subst hx; exact hn) w (hw.src (RdOf.blk (cs := [.int .u64 n]) (Nat.le_refl _) (by unfold maxLen; omega) (by simp) rfl) (by repeat (first | exact Take1.head | apply Take1.tail))) hw.left.here) rfl ?_ -- t17 (*hailer/wire.Out).U64
  intro y17 _
  rw [e2]
  dsimp only
  refine WL.nil ?_
  refine WC.seq ?_
  refine WC.region ?_
  refine WL.y (Yl.move rfl) rfl ?_ -- t18
  refine WL.y (Yl.move rfl) rfl ?_ -- t19
  refine WL.y (Yl.len un22 rfl) rfl ?_ -- t20
  refine WL.y (Yl.conv un3 un63 rfl (show IntKind.u32.wrap (b.length : Int) = (b.length : Int) by simp [IntKind.wrap, IntKind.bits, IntKind.signed]; omega)) rfl ?_ -- t21
  refine WL.to (To.buildSlice (vs := [.int .u32 (b.length : Int)]) un79 zs63 rfl rfl (by simp [Value.cells]) (by decide) (by decide)) rfl ?_ -- t22
  intro b22
  refine WL.callC (xs := [.tmp 18, .tmp 22]) (cap := []) rfl rfl en26 (by repeat (first | exact TakeL.nil | (apply TakeL.cons; · repeat (first | exact Take1.head | apply Take1.tail)))) (fun w hw => outU32_any b8 y17 9223372036854775807 ([72, 68] ++ be n 8) false [(b.length : Int)] (.slice (some ⟨b22, 0, none⟩) 1 1) hlo f2 (by rw [l2]; simp [total, b4, be_len]) (by intro x hx; simp at hx; subst hx; omega) w (hw.src (RdOf.blk (cs := [.int .u32 (b.length : Int)]) (Nat.le_refl _) (by unfold maxLen; omega) (by simp) rfl) (by repeat (first | exact Take1.head | apply Take1.tail))) hw.left.here) rfl ?_ -- t23 (*hailer/wire.Out).U32
  intro y23 _
  rw [e3]
  dsimp only
  refine WL.nil ?_
  refine WC.seq ?_
  refine WC.region ?_
  refine WL.y (Yl.move rfl) rfl ?_ -- t24
  refine WL.y (Yl.move rfl) rfl ?_ -- t25
  refine WL.to (To.buildSlice (vs := [.slice al b.length cl]) un66 zs22 rfl rfl (by simp [Value.cells]) (by decide) (by decide)) rfl ?_ -- t26
  intro b26
  refine WL.callC (xs := [.tmp 24, .tmp 26]) (cap := []) rfl rfl en24 (by repeat (first | exact TakeL.nil | (apply TakeL.cons; · repeat (first | exact Take1.head | apply Take1.tail)))) (fun w hw => outFixed_any b8 y23 9223372036854775807 ([72, 68] ++ be n 8 ++ be (b.length : Int) 4) false [b] [.slice al b.length cl] (.slice (some ⟨b26, 0, none⟩) 1 1) rfl hlo f3 (by rw [l3]; simp [total]; omega) w (hw.src (RdOf.blk (cs := [.slice al b.length cl]) (Nat.le_refl _) (by unfold maxLen; omega) (by simp) rfl) (by repeat (first | exact Take1.head | apply Take1.tail))) (one1 (hw.srcS hx)) hw.left.here) rfl ?_ -- t27 (*hailer/wire.Out).Fixed
  intro y27 _
  rw [e4]
  dsimp only
  refine WL.nil ?_
  refine WC.seq ?_
  refine WC.region ?_
  refine WL.y (Yl.move rfl) rfl ?_ -- t29
  refine WL.callC (xs := [.tmp 29]) (cap := []) rfl rfl en27 (by repeat (first | exact TakeL.nil | (apply TakeL.cons; · repeat (first | exact Take1.head | apply Take1.tail)))) (fun w hw => outBytes_ok b8 y27 9223372036854775807 (headF n b) (by omega) (by rw [l4]; omega) w hw.left.here) rfl ?_ -- t30 (*hailer/wire.Out).Bytes
  rintro ⟨a30, c30⟩ hc30
  dsimp only at hc30 ⊢
  refine WL.y (Yl.move rfl) rfl ?_ -- t28
  refine WL.y (Yl.extract rfl rfl) rfl ?_ -- t31
  refine WL.y (Yl.extract rfl rfl) rfl ?_ -- t32
  refine WL.y (Yl.assign rfl) rfl ?_ -- t6
  refine WL.y (Yl.assign rfl) rfl ?_ -- t7
  refine WL.nil ?_
  refine WC.seq ?_
  refine WC.region ?_
  refine WL.y (Yl.move rfl) rfl ?_ -- t33
  refine WL.y (Yl.move rfl) rfl ?_ -- t34
  refine WL.callC (xs := [.tmp 34]) (cap := []) rfl rfl en28 (by repeat (first | exact TakeL.nil | (apply TakeL.cons; · repeat (first | exact Take1.head | apply Take1.tail)))) (fun w hw => dsum_any (headF n b) (.slice a30 (headF n b).length c30) (by rw [l4]; omega) w (hw.src (A := []) RdOf.own (by repeat (first | exact Take1.head | apply Take1.tail))) hw.left.here) rfl ?_ -- t35 hailer/disk.sum
  intro b35 _
  refine WL.to (To.append sl22 rfl rfl (by repeat (first | exact Take1.head | apply Take1.tail)) (Reads.of RdOf.rd' (by repeat (first | exact Take1.head | apply Take1.tail))) (ints_one _ _) (show (headF n b).length + 8 = (recF n b).length by rw [l4, l5]; omega) (ints_append _ _ _) (by rw [l5]; unfold maxLen; omega) (by rw [l5]; omega)) rfl ?_ -- t36
  rintro ⟨⟨ao36, c36⟩, hc36⟩
  dsimp only at hc36 ⊢
  refine WL.y (Yl.assign rfl) rfl ?_ -- t4
  refine WL.nil ?_
  refine WC.ret ?_
  repeat (first | (with_reducible refine peelT ?_) | (with_reducible refine peelB ?_) | (with_reducible refine peelTX ?_) | (with_reducible refine peelBX ?_) | (with_reducible refine peelBN ?_) | (with_reducible refine peelBO rfl ?_))
  exact ret1 (.inr rfl) Try.results18 rfl fun w' h => ⟨(ao36, c36), hc36, rfl, h.sub (by repeat (first | exact TakeL.nil | (apply TakeL.cons; · repeat (first | exact Take1.head | apply Take1.tail))))⟩
end Go.Proofs.Ytjlgmaappebppaa
