/- The wire's functions on a nil receiver: they do nothing. -/
import Derived.Test.YtahkaepmfnmhcaaWireC
namespace Go.Proofs.Ytahkaepmfnmhcaa
open Go Go.RowKit

theorem put_nil (xv : Value) (w : World) (hw : OK w (fpL []) [] w) : Fn Try.prog 39 [.pointer none, xv] [] w (fun _ : Unit => True) (fun _ => .tuple #[]) (fun _ => []) := by
  refine enterF Try.func39 rfl Try.ntmps39 rfl hw ?_
  refine WC.seq ?_
  refine WC.seq ?_
  refine WC.region ?_
  refine WL.y (Yl.move rfl) rfl ?_ -- t4
  refine WL.y (Yl.nilEq un25 rfl rfl) rfl ?_ -- t5
  refine WL.know (t := 5) (b' := true) rfl (by first | rfl | (simp; done) | (simp; omega)) ?_
  refine WL.y (Yl.move rfl) rfl ?_ -- t6
  refine WL.off rfl rfl rfl rfl ?_ -- t7
  refine WL.off rfl rfl rfl rfl ?_ -- t8
  refine WL.off rfl rfl rfl rfl ?_ -- t9
  refine WL.off rfl rfl rfl rfl ?_ -- t10
  refine WL.y (Yl.pickT rfl rfl) rfl ?_ -- t11
  refine WL.nil ?_
  refine WC.condT rfl (by first | rfl | (simp; done) | (simp; omega)) ?_
  refine WC.ret ?_
  repeat (first | (with_reducible refine peelT ?_) | (with_reducible refine peelB ?_) | (with_reducible refine peelTX ?_) | (with_reducible refine peelBX ?_) | (with_reducible refine peelBN ?_) | (with_reducible refine peelBO rfl ?_))
  exact ret0 (.inr rfl) Try.results39 fun w' h => ⟨(), trivial, rfl, h.sub (by repeat (first | exact TakeL.nil | (apply TakeL.cons; · repeat (first | exact Take1.head | apply Take1.tail))))⟩
theorem outU8_nil (xv : Value) (w : World) (hw : OK w (fpL []) [] w) : Fn Try.prog 18 [.pointer none, xv] [] w (fun _ : Unit => True) (fun _ => .tuple #[]) (fun _ => []) := by
  refine enterF Try.func18 rfl Try.ntmps18 rfl hw ?_
  refine WC.region ?_
  refine WL.y (Yl.move rfl) rfl ?_ -- t4
  refine WL.y (Yl.move rfl) rfl ?_ -- t5
  refine WL.callC (xs := [.tmp 4, .tmp 5]) (cap := []) rfl rfl en39 (by repeat (first | exact TakeL.nil | (apply TakeL.cons; · repeat (first | exact Take1.head | apply Take1.tail)))) (fun w hw => put_nil xv w hw.left.here) rfl ?_ -- t6 (*hailer/wire.Out).put
  rintro ⟨⟩ -
  refine WL.nil ?_
  repeat (first | (with_reducible refine peelT ?_) | (with_reducible refine peelB ?_) | (with_reducible refine peelTX ?_) | (with_reducible refine peelBX ?_) | (with_reducible refine peelBN ?_) | (with_reducible refine peelBO rfl ?_))
  exact ret0 (.inl rfl) Try.results18 fun w' h => ⟨(), trivial, rfl, h.sub (by repeat (first | exact TakeL.nil | (apply TakeL.cons; · repeat (first | exact Take1.head | apply Take1.tail))))⟩
theorem outU32_nil (l : List Int) (lv : Value) (hl : ∀ x ∈ l, 0 ≤ x ∧ x < 4294967296) (w : World) (hx : RdS w (fpL []) lv 1 l.length (ints .u32 l)) (hw : OK w (fpL []) [] w) : Fn Try.prog 19 [.pointer none, lv] [] w (fun _ : Unit => True) (fun _ => .tuple #[]) (fun _ => []) := by
  obtain ⟨al, cl, rfl, hcl, hml⟩ := hx.rd.form
  unfold maxLen at hml
  refine enterF Try.func19 rfl Try.ntmps19 rfl hw ?_
  refine WC.seq ?_
  refine WC.region ?_
  refine WL.y (Yl.move rfl) rfl ?_ -- t6
  refine WL.y (Yl.len un52 rfl) rfl ?_ -- t7
  refine WL.y (Yl.move rfl) rfl ?_ -- t8
  refine WL.nil ?_
  refine WC.block ?_
  refine WC.loop (α := Nat) (fun j => [(0, .pointer none), (6, .slice al l.length cl), (7, .int .i64 (l.length : Int)), (8, .int .i64 (j : Int))]) (fun _ => []) (fun j => j ≤ l.length) (fun j => l.length - j) 0 (Nat.zero_le _) ⟨(by repeat (first | exact Sub.nil | refine Sub.cons rfl ?_)), _, (by repeat (first | exact TakeL.nil | (apply TakeL.cons; · repeat (first | exact Take1.head | apply Take1.tail))))⟩ ?_
  intro j hj
  refine WC.seq ?_
  refine WC.region ?_
  refine WL.y (Yl.lss rfl rfl) rfl ?_ -- t9
  refine WL.nil ?_
  refine WC.seq ?_
  refine WC.condD rfl (fun g9 => ?_) (fun g9 => ?_)
  · refine WC.skip ?_
    refine WC.seq ?_
    refine WC.block ?_
    refine WC.seq ?_
    refine WC.region ?_
    have hjl : j < l.length := by omega
    have hn := hl _ (List.mem_of_getElem? (getD_of hjl))
    refine WL.y (Yl.index un52 sz49 rfl rfl (Reads.s hx) rfl (by omega)) rfl ?_ -- t10
    refine WL.y (Yl.loadE on49 rfl (Reads.s hx) (ints_get .u32 l j (by omega))) rfl ?_ -- t11
    refine WL.y (Yl.assign rfl) rfl ?_ -- t5
    refine WL.nil ?_
    refine WC.region ?_
    refine WL.y (Yl.move rfl) rfl ?_ -- t12
    refine WL.y (Yl.move rfl) rfl ?_ -- t13
    refine WL.callC (xs := [.tmp 13, _]) (cap := []) rfl rfl en40 (by repeat (first | exact TakeL.nil | (apply TakeL.cons; · repeat (first | exact Take1.head | apply Take1.tail)))) (fun w hw => number32_any (l.getD j 0) 4 hn (by omega) w hw.left.here) rfl ?_ -- t14 hailer/wire.number[uint32]
    intro z _
    refine WL.callC (xs := [.tmp 12, .tmp 14]) (cap := []) rfl rfl en39 (by repeat (first | exact TakeL.nil | (apply TakeL.cons; · repeat (first | exact Take1.head | apply Take1.tail)))) (fun w hw => put_nil (.slice z.1 4 z.2) w hw.left.here) rfl ?_ -- t15 (*hailer/wire.Out).put
    rintro ⟨⟩ -
    refine WL.nil ?_
    refine WC.region ?_
    refine WL.y (Yl.add rfl rfl (IntWalk.i64_in _ (by omega))) rfl ?_ -- t16
    refine WL.y (Yl.move rfl) rfl ?_ -- t8
    refine WL.nil ?_
    exact ⟨rfl, j + 1, by omega, by omega, (by repeat (first | exact Sub.nil | refine Sub.cons rfl ?_)), _, (by repeat (first | exact TakeL.nil | (apply TakeL.cons; · repeat (first | exact Take1.head | apply Take1.tail))))⟩
  · refine WC.exit ?_
    repeat (first | (with_reducible refine peelT ?_) | (with_reducible refine peelB ?_) | (with_reducible refine peelTX ?_) | (with_reducible refine peelBX ?_) | (with_reducible refine peelBN ?_) | (with_reducible refine peelBO rfl ?_))
    exact ret0 (.inl rfl) Try.results19 fun w' h => ⟨(), trivial, rfl, h.sub (by repeat (first | exact TakeL.nil | (apply TakeL.cons; · repeat (first | exact Take1.head | apply Take1.tail))))⟩
theorem outU64_nil (l : List Int) (lv : Value) (hl : ∀ x ∈ l, 0 ≤ x ∧ x < 18446744073709551616) (w : World) (hx : RdS w (fpL []) lv 1 l.length (ints .u64 l)) (hw : OK w (fpL []) [] w) : Fn Try.prog 24 [.pointer none, lv] [] w (fun _ : Unit => True) (fun _ => .tuple #[]) (fun _ => []) := by
  obtain ⟨al, cl, rfl, hcl, hml⟩ := hx.rd.form
  unfold maxLen at hml
  refine enterF Try.func24 rfl Try.ntmps24 rfl hw ?_
  refine WC.seq ?_
  refine WC.region ?_
  refine WL.y (Yl.move rfl) rfl ?_ -- t6
  refine WL.y (Yl.len un82 rfl) rfl ?_ -- t7
  refine WL.y (Yl.move rfl) rfl ?_ -- t8
  refine WL.nil ?_
  refine WC.block ?_
  refine WC.loop (α := Nat) (fun j => [(0, .pointer none), (6, .slice al l.length cl), (7, .int .i64 (l.length : Int)), (8, .int .i64 (j : Int))]) (fun _ => []) (fun j => j ≤ l.length) (fun j => l.length - j) 0 (Nat.zero_le _) ⟨(by repeat (first | exact Sub.nil | refine Sub.cons rfl ?_)), _, (by repeat (first | exact TakeL.nil | (apply TakeL.cons; · repeat (first | exact Take1.head | apply Take1.tail))))⟩ ?_
  intro j hj
  refine WC.seq ?_
  refine WC.region ?_
  refine WL.y (Yl.lss rfl rfl) rfl ?_ -- t9
  refine WL.nil ?_
  refine WC.seq ?_
  refine WC.condD rfl (fun g9 => ?_) (fun g9 => ?_)
  · refine WC.skip ?_
    refine WC.seq ?_
    refine WC.block ?_
    refine WC.seq ?_
    refine WC.region ?_
    have hjl : j < l.length := by omega
    have hn := hl _ (List.mem_of_getElem? (getD_of hjl))
    refine WL.y (Yl.index un82 sz51 rfl rfl (Reads.s hx) rfl (by omega)) rfl ?_ -- t10
    refine WL.y (Yl.loadE on51 rfl (Reads.s hx) (ints_get .u64 l j (by omega))) rfl ?_ -- t11
    refine WL.y (Yl.assign rfl) rfl ?_ -- t5
    refine WL.nil ?_
    refine WC.region ?_
    refine WL.y (Yl.move rfl) rfl ?_ -- t12
    refine WL.y (Yl.move rfl) rfl ?_ -- t13
    refine WL.callC (xs := [.tmp 13, _]) (cap := []) rfl rfl en44 (by repeat (first | exact TakeL.nil | (apply TakeL.cons; · repeat (first | exact Take1.head | apply Take1.tail)))) (fun w hw => number_any (l.getD j 0) 8 hn (by omega) w hw.left.here) rfl ?_ -- t14 hailer/wire.number[uint64]
    intro z _
    refine WL.callC (xs := [.tmp 12, .tmp 14]) (cap := []) rfl rfl en39 (by repeat (first | exact TakeL.nil | (apply TakeL.cons; · repeat (first | exact Take1.head | apply Take1.tail)))) (fun w hw => put_nil (.slice z.1 8 z.2) w hw.left.here) rfl ?_ -- t15 (*hailer/wire.Out).put
    rintro ⟨⟩ -
    refine WL.nil ?_
    refine WC.region ?_
    refine WL.y (Yl.add rfl rfl (IntWalk.i64_in _ (by omega))) rfl ?_ -- t16
    refine WL.y (Yl.move rfl) rfl ?_ -- t8
    refine WL.nil ?_
    exact ⟨rfl, j + 1, by omega, by omega, (by repeat (first | exact Sub.nil | refine Sub.cons rfl ?_)), _, (by repeat (first | exact TakeL.nil | (apply TakeL.cons; · repeat (first | exact Take1.head | apply Take1.tail))))⟩
  · refine WC.exit ?_
    repeat (first | (with_reducible refine peelT ?_) | (with_reducible refine peelB ?_) | (with_reducible refine peelTX ?_) | (with_reducible refine peelBX ?_) | (with_reducible refine peelBN ?_) | (with_reducible refine peelBO rfl ?_))
    exact ret0 (.inl rfl) Try.results24 fun w' h => ⟨(), trivial, rfl, h.sub (by repeat (first | exact TakeL.nil | (apply TakeL.cons; · repeat (first | exact Take1.head | apply Take1.tail))))⟩
theorem outFlag_nil (l : List Bool) (lv : Value) (w : World) (hx : RdS w (fpL []) lv 1 l.length (l.map Value.bool)) (hw : OK w (fpL []) [] w) : Fn Try.prog 25 [.pointer none, lv] [] w (fun _ : Unit => True) (fun _ => .tuple #[]) (fun _ => []) := by
  obtain ⟨al, cl, rfl, hcl, hml⟩ := hx.rd.form
  unfold maxLen at hml
  refine enterF Try.func25 rfl Try.ntmps25 rfl hw ?_
  refine WC.seq ?_
  refine WC.region ?_
  refine WL.y (Yl.move rfl) rfl ?_ -- t7
  refine WL.y (Yl.len un84 rfl) rfl ?_ -- t8
  refine WL.y (Yl.move rfl) rfl ?_ -- t9
  refine WL.nil ?_
  refine WC.block ?_
  refine WC.loop (α := Nat) (fun j => [(0, .pointer none), (7, .slice al l.length cl), (8, .int .i64 (l.length : Int)), (9, .int .i64 (j : Int))]) (fun _ => []) (fun j => j ≤ l.length) (fun j => l.length - j) 0 (Nat.zero_le _) ⟨(by repeat (first | exact Sub.nil | refine Sub.cons rfl ?_)), _, (by repeat (first | exact TakeL.nil | (apply TakeL.cons; · repeat (first | exact Take1.head | apply Take1.tail))))⟩ ?_
  intro j hj
  refine WC.seq ?_
  refine WC.region ?_
  refine WL.y (Yl.lss rfl rfl) rfl ?_ -- t10
  refine WL.nil ?_
  refine WC.seq ?_
  refine WC.condD rfl (fun g10 => ?_) (fun g10 => ?_)
  · refine WC.skip ?_
    refine WC.seq ?_
    refine WC.block ?_
    refine WC.seq ?_
    refine WC.region ?_
    have hjl : j < l.length := by omega
    have hfl : (l.map Value.bool)[j]? = some (.bool (l.getD j false)) := by simp [hjl]
    refine WL.y (Yl.index un84 sz4 rfl rfl (Reads.s hx) rfl (by omega)) rfl ?_ -- t11
    refine WL.y (Yl.loadE on4 rfl (Reads.s hx) hfl) rfl ?_ -- t12
    refine WL.y (Yl.assign rfl) rfl ?_ -- t5
    refine WL.nil ?_
    refine WC.seq ?_
    refine WC.region ?_
    refine WL.y (Yl.assign rfl) rfl ?_ -- t6
    refine WL.nil ?_
    refine WC.seq ?_
    refine WC.seq ?_
    refine WC.region ?_
    refine WL.y (Yl.move rfl) rfl ?_ -- t13
    refine WL.nil ?_
    refine WC.cond rfl (fun g13 => ?_) (fun g13 => ?_)
    · refine WC.region ?_
      refine WL.y (Yl.assign rfl) rfl ?_ -- t6
      refine WL.nil ?_
      refine WC.region ?_
      refine WL.y (Yl.move rfl) rfl ?_ -- t14
      refine WL.y (Yl.move rfl) rfl ?_ -- t15
      refine WL.to (To.buildSlice (vs := [.int .u8 1]) un28 zs5 rfl rfl (by simp [Value.cells]) (by decide) (by decide)) rfl ?_ -- t16
      intro b16
      refine WL.callC (xs := [.tmp 14, .tmp 16]) (cap := []) rfl rfl en39 (by repeat (first | exact TakeL.nil | (apply TakeL.cons; · repeat (first | exact Take1.head | apply Take1.tail)))) (fun w hw => put_nil (.slice (some ⟨b16, 0, none⟩) 1 1) w hw.left.here) rfl ?_ -- t17 (*hailer/wire.Out).put
      rintro ⟨⟩ -
      refine WL.nil ?_
      refine WC.region ?_
      refine WL.y (Yl.add rfl rfl (IntWalk.i64_in _ (by omega))) rfl ?_ -- t18
      refine WL.y (Yl.move rfl) rfl ?_ -- t9
      refine WL.nil ?_
      exact ⟨rfl, j + 1, by omega, by omega, (by repeat (first | exact Sub.nil | refine Sub.cons rfl ?_)), _, (by repeat (first | exact TakeL.nil | (apply TakeL.cons; · repeat (first | exact Take1.head | apply Take1.tail))))⟩
    · refine WC.skip ?_
      refine WC.region ?_
      refine WL.y (Yl.move rfl) rfl ?_ -- t14
      refine WL.y (Yl.move rfl) rfl ?_ -- t15
      refine WL.to (To.buildSlice (vs := [.int .u8 0]) un28 zs5 rfl rfl (by simp [Value.cells]) (by decide) (by decide)) rfl ?_ -- t16
      intro b16
      refine WL.callC (xs := [.tmp 14, .tmp 16]) (cap := []) rfl rfl en39 (by repeat (first | exact TakeL.nil | (apply TakeL.cons; · repeat (first | exact Take1.head | apply Take1.tail)))) (fun w hw => put_nil (.slice (some ⟨b16, 0, none⟩) 1 1) w hw.left.here) rfl ?_ -- t17 (*hailer/wire.Out).put
      rintro ⟨⟩ -
      refine WL.nil ?_
      refine WC.region ?_
      refine WL.y (Yl.add rfl rfl (IntWalk.i64_in _ (by omega))) rfl ?_ -- t18
      refine WL.y (Yl.move rfl) rfl ?_ -- t9
      refine WL.nil ?_
      exact ⟨rfl, j + 1, by omega, by omega, (by repeat (first | exact Sub.nil | refine Sub.cons rfl ?_)), _, (by repeat (first | exact TakeL.nil | (apply TakeL.cons; · repeat (first | exact Take1.head | apply Take1.tail))))⟩
  · refine WC.exit ?_
    repeat (first | (with_reducible refine peelT ?_) | (with_reducible refine peelB ?_) | (with_reducible refine peelTX ?_) | (with_reducible refine peelBX ?_) | (with_reducible refine peelBN ?_) | (with_reducible refine peelBO rfl ?_))
    exact ret0 (.inl rfl) Try.results25 fun w' h => ⟨(), trivial, rfl, h.sub (by repeat (first | exact TakeL.nil | (apply TakeL.cons; · repeat (first | exact Take1.head | apply Take1.tail))))⟩
theorem outFixed_nil (vs : List Value) (lv : Value) (w : World) (hx : RdS w (fpL []) lv 1 vs.length vs) (hw : OK w (fpL []) [] w) : Fn Try.prog 26 [.pointer none, lv] [] w (fun _ : Unit => True) (fun _ => .tuple #[]) (fun _ => []) := by
  obtain ⟨al, cl, rfl, hcl, hml⟩ := hx.rd.form
  unfold maxLen at hml
  refine enterF Try.func26 rfl Try.ntmps26 rfl hw ?_
  refine WC.seq ?_
  refine WC.region ?_
  refine WL.y (Yl.move rfl) rfl ?_ -- t6
  refine WL.y (Yl.len un85 rfl) rfl ?_ -- t7
  refine WL.y (Yl.move rfl) rfl ?_ -- t8
  refine WL.nil ?_
  refine WC.block ?_
  refine WC.loop (α := Nat) (fun j => [(0, .pointer none), (6, .slice al vs.length cl), (7, .int .i64 (vs.length : Int)), (8, .int .i64 (j : Int))]) (fun _ => []) (fun j => j ≤ vs.length) (fun j => vs.length - j) 0 (Nat.zero_le _) ⟨(by repeat (first | exact Sub.nil | refine Sub.cons rfl ?_)), _, (by repeat (first | exact TakeL.nil | (apply TakeL.cons; · repeat (first | exact Take1.head | apply Take1.tail))))⟩ ?_
  intro j hj
  refine WC.seq ?_
  refine WC.region ?_
  refine WL.y (Yl.lss rfl rfl) rfl ?_ -- t9
  refine WL.nil ?_
  refine WC.seq ?_
  refine WC.condD rfl (fun g9 => ?_) (fun g9 => ?_)
  · refine WC.skip ?_
    refine WC.seq ?_
    refine WC.block ?_
    refine WC.seq ?_
    refine WC.region ?_
    obtain ⟨v, hv⟩ : ∃ v, vs[j]? = some v := ⟨_, List.getElem?_eq_getElem (by omega)⟩
    refine WL.y (Yl.index un85 sz28 rfl rfl (Reads.s hx) rfl (by omega)) rfl ?_ -- t10
    refine WL.y (Yl.loadE on28 rfl (Reads.s hx) hv) rfl ?_ -- t11
    refine WL.y (Yl.assign rfl) rfl ?_ -- t5
    refine WL.nil ?_
    refine WC.region ?_
    refine WL.y (Yl.move rfl) rfl ?_ -- t12
    refine WL.y (Yl.move rfl) rfl ?_ -- t13
    refine WL.callC (xs := [.tmp 12, .tmp 13]) (cap := []) rfl rfl en39 (by repeat (first | exact TakeL.nil | (apply TakeL.cons; · repeat (first | exact Take1.head | apply Take1.tail)))) (fun w hw => put_nil v w hw.left.here) rfl ?_ -- t14 (*hailer/wire.Out).put
    rintro ⟨⟩ -
    refine WL.nil ?_
    refine WC.region ?_
    refine WL.y (Yl.add rfl rfl (IntWalk.i64_in _ (by omega))) rfl ?_ -- t15
    refine WL.y (Yl.move rfl) rfl ?_ -- t8
    refine WL.nil ?_
    exact ⟨rfl, j + 1, by omega, by omega, (by repeat (first | exact Sub.nil | refine Sub.cons rfl ?_)), _, (by repeat (first | exact TakeL.nil | (apply TakeL.cons; · repeat (first | exact Take1.head | apply Take1.tail))))⟩
  · refine WC.exit ?_
    repeat (first | (with_reducible refine peelT ?_) | (with_reducible refine peelB ?_) | (with_reducible refine peelTX ?_) | (with_reducible refine peelBX ?_) | (with_reducible refine peelBN ?_) | (with_reducible refine peelBO rfl ?_))
    exact ret0 (.inl rfl) Try.results26 fun w' h => ⟨(), trivial, rfl, h.sub (by repeat (first | exact TakeL.nil | (apply TakeL.cons; · repeat (first | exact Take1.head | apply Take1.tail))))⟩
theorem outMany_nil (most n : Int) (w : World) (hw : OK w (fpL []) [] w) : Fn Try.prog 41 [.pointer none, .int .i64 most, .int .i64 n] [] w (fun _ : Unit => True) (fun _ => .bool false) (fun _ => []) := by
  refine enterF Try.func41 rfl Try.ntmps41 rfl hw ?_
  refine WC.seq ?_
  refine WC.region ?_
  refine WL.y (Yl.assign rfl) rfl ?_ -- t6
  refine WL.nil ?_
  refine WC.seq ?_
  refine WC.seq ?_
  refine WC.region ?_
  refine WL.y (Yl.move rfl) rfl ?_ -- t7
  refine WL.y (Yl.nilEq un25 rfl rfl) rfl ?_ -- t8
  refine WL.know (t := 8) (b' := true) rfl (by first | rfl | (simp; done) | (simp; omega)) ?_
  refine WL.nil ?_
  refine WC.condT rfl (by first | rfl | (simp; done) | (simp; omega)) ?_
  refine WC.seq ?_
  refine WC.region ?_
  refine WL.y (Yl.assign rfl) rfl ?_ -- t6
  refine WL.nil ?_
  refine WC.ret ?_
  repeat (first | (with_reducible refine peelT ?_) | (with_reducible refine peelB ?_) | (with_reducible refine peelTX ?_) | (with_reducible refine peelBX ?_) | (with_reducible refine peelBN ?_) | (with_reducible refine peelBO rfl ?_))
  exact ret1 (.inr rfl) Try.results41 rfl fun w' h => ⟨(), trivial, rfl, h.sub (by repeat (first | exact TakeL.nil | (apply TakeL.cons; · repeat (first | exact Take1.head | apply Take1.tail))))⟩
theorem outSized_nil (most : Int) (ao : Option Addr) (n cap : Nat) (w : World) (hw : OK w (fpL []) [] w) : Fn Try.prog 20 [.pointer none, .int .i64 most, .slice ao n cap] [] w (fun _ : Unit => True) (fun _ => .tuple #[]) (fun _ => []) := by
  refine enterF Try.func20 rfl Try.ntmps20 rfl hw ?_
  refine WC.seq ?_
  refine WC.region ?_
  refine WL.y (Yl.move rfl) rfl ?_ -- t6
  refine WL.y (Yl.move rfl) rfl ?_ -- t7
  refine WL.y (Yl.move rfl) rfl ?_ -- t8
  refine WL.y (Yl.len un28 rfl) rfl ?_ -- t9
  refine WL.callC (xs := [.tmp 6, .tmp 7, .tmp 9]) (cap := []) rfl rfl en41 (by repeat (first | exact TakeL.nil | (apply TakeL.cons; · repeat (first | exact Take1.head | apply Take1.tail)))) (fun w hw => outMany_nil most n w hw.left.here) rfl ?_ -- t10 (*hailer/wire.Out).many
  rintro ⟨⟩ -
  refine WL.nil ?_
  refine WC.condF rfl (by first | rfl | (simp; done) | (simp; omega)) ?_
  refine WC.skip ?_
  repeat (first | (with_reducible refine peelT ?_) | (with_reducible refine peelB ?_) | (with_reducible refine peelTX ?_) | (with_reducible refine peelBX ?_) | (with_reducible refine peelBN ?_) | (with_reducible refine peelBO rfl ?_))
  exact ret0 (.inl rfl) Try.results20 fun w' h => ⟨(), trivial, rfl, h.sub (by repeat (first | exact TakeL.nil | (apply TakeL.cons; · repeat (first | exact Take1.head | apply Take1.tail))))⟩
theorem putList_nil (most : Int) (ao : Option Addr) (n cap : Nat) (fv : Value) (w : World) (hw : OK w (fpL []) [] w) : Fn Try.prog 27 [.pointer none, .int .i64 most, .slice ao n cap, fv] [] w (fun _ : Unit => True) (fun _ => .tuple #[]) (fun _ => []) := by
  refine enterF Try.func27 rfl Try.ntmps27 rfl hw ?_
  refine WC.seq ?_
  refine WC.seq ?_
  refine WC.region ?_
  refine WL.y (Yl.move rfl) rfl ?_ -- t10
  refine WL.y (Yl.nilNe un25 rfl rfl) rfl ?_ -- t11
  refine WL.nil ?_
  refine WC.condF rfl (by first | rfl | (simp; done) | (simp; omega)) ?_
  refine WC.skip ?_
  refine WC.seq ?_
  refine WC.seq ?_
  refine WC.region ?_
  refine WL.y (Yl.move rfl) rfl ?_ -- t27
  refine WL.y (Yl.move rfl) rfl ?_ -- t28
  refine WL.y (Yl.move rfl) rfl ?_ -- t29
  refine WL.y (Yl.len un52 rfl) rfl ?_ -- t30
  refine WL.callC (xs := [.tmp 27, .tmp 28, .tmp 30]) (cap := []) rfl rfl en41 (by repeat (first | exact TakeL.nil | (apply TakeL.cons; · repeat (first | exact Take1.head | apply Take1.tail)))) (fun w hw => outMany_nil most n w hw.left.here) rfl ?_ -- t31 (*hailer/wire.Out).many
  rintro ⟨⟩ -
  refine WL.y (Yl.not rfl) rfl ?_ -- t32
  refine WL.nil ?_
  refine WC.condT rfl (by first | rfl | (simp; done) | (simp; omega)) ?_
  refine WC.ret ?_
  repeat (first | (with_reducible refine peelT ?_) | (with_reducible refine peelB ?_) | (with_reducible refine peelTX ?_) | (with_reducible refine peelBX ?_) | (with_reducible refine peelBN ?_) | (with_reducible refine peelBO rfl ?_))
  exact ret0 (.inr rfl) Try.results27 fun w' h => ⟨(), trivial, rfl, h.sub (by repeat (first | exact TakeL.nil | (apply TakeL.cons; · repeat (first | exact Take1.head | apply Take1.tail))))⟩
theorem outBytes_nil (w : World) (hw : OK w (fpL []) [] w) : Fn Try.prog 10 [.pointer none] [] w (fun _ : Unit => True) (fun _ => .tuple #[.slice none 0 0, .int .i64 1]) (fun _ => []) := by
  refine enterF Try.func10 rfl Try.ntmps10 rfl hw ?_
  refine WC.seq ?_
  refine WC.region ?_
  refine WL.y (Yl.assign rfl) rfl ?_ -- t2
  refine WL.y (Yl.assign rfl) rfl ?_ -- t3
  refine WL.nil ?_
  refine WC.seq ?_
  refine WC.block ?_
  refine WC.seq ?_
  refine WC.region ?_
  refine WL.y (Yl.move rfl) rfl ?_ -- t5
  refine WL.y (Yl.nilEq un25 rfl rfl) rfl ?_ -- t6
  refine WL.y (Yl.assign rfl) rfl ?_ -- t4
  refine WL.nil ?_
  refine WC.condT rfl (by first | rfl | (simp; done) | (simp; omega)) ?_
  refine WC.seq ?_
  refine WC.region ?_
  refine WL.y (Yl.assign rfl) rfl ?_ -- t2
  refine WL.y (Yl.assign rfl) rfl ?_ -- t3
  refine WL.nil ?_
  refine WC.ret ?_
  repeat (first | (with_reducible refine peelT ?_) | (with_reducible refine peelB ?_) | (with_reducible refine peelTX ?_) | (with_reducible refine peelBX ?_) | (with_reducible refine peelBN ?_) | (with_reducible refine peelBO rfl ?_))
  exact ret2 (.inr rfl) Try.results10 rfl rfl fun w' h => ⟨(), trivial, rfl, h.sub (by repeat (first | exact TakeL.nil | (apply TakeL.cons; · repeat (first | exact Take1.head | apply Take1.tail))))⟩
theorem take_nil (k : Int) (w : World) (hw : OK w (fpL []) [] w) : Fn Try.prog 46 [.pointer none, .int .i64 k] [] w (fun _ : Unit => True) (fun _ => .slice none 0 0) (fun _ => []) := by
  refine enterF Try.func46 rfl Try.ntmps46 rfl hw ?_
  refine WC.seq ?_
  refine WC.region ?_
  refine WL.y (Yl.assign rfl) rfl ?_ -- t4
  refine WL.nil ?_
  refine WC.seq ?_
  refine WC.seq ?_
  refine WC.region ?_
  refine WL.y (Yl.move rfl) rfl ?_ -- t6
  refine WL.y (Yl.nilEq un35 rfl rfl) rfl ?_ -- t7
  refine WL.nil ?_
  refine WC.condT rfl (by first | rfl | (simp; done) | (simp; omega)) ?_
  refine WC.seq ?_
  refine WC.region ?_
  refine WL.y (Yl.assign rfl) rfl ?_ -- t4
  refine WL.nil ?_
  refine WC.ret ?_
  repeat (first | (with_reducible refine peelT ?_) | (with_reducible refine peelB ?_) | (with_reducible refine peelTX ?_) | (with_reducible refine peelBX ?_) | (with_reducible refine peelBN ?_) | (with_reducible refine peelBO rfl ?_))
  exact ret1 (.inr rfl) Try.results46 rfl fun w' h => ⟨(), trivial, rfl, h.sub (by repeat (first | exact TakeL.nil | (apply TakeL.cons; · repeat (first | exact Take1.head | apply Take1.tail))))⟩
theorem next_nil (k : Int) (w : World) (hw : OK w (fpL []) [] w) : Fn Try.prog 42 [.pointer none, .int .i64 k] [] w (fun _ : Unit => True) (fun _ => .int .u64 0) (fun _ => []) := by
  refine enterF Try.func42 rfl Try.ntmps42 rfl hw ?_
  refine WC.seq ?_
  refine WC.region ?_
  refine WL.y (Yl.assign rfl) rfl ?_ -- t4
  refine WL.nil ?_
  refine WC.seq ?_
  refine WC.region ?_
  refine WL.y (Yl.assign rfl) rfl ?_ -- t5
  refine WL.nil ?_
  refine WC.seq ?_
  refine WC.seq ?_
  refine WC.region ?_
  refine WL.y (Yl.move rfl) rfl ?_ -- t8
  refine WL.y (Yl.move rfl) rfl ?_ -- t9
  refine WL.callC (xs := [.tmp 8, .tmp 9]) (cap := []) rfl rfl en46 (by repeat (first | exact TakeL.nil | (apply TakeL.cons; · repeat (first | exact Take1.head | apply Take1.tail)))) (fun w hw => take_nil k w hw.left.here) rfl ?_ -- t10 (*hailer/wire.In).take
  rintro ⟨⟩ -
  refine WL.y (Yl.len un28 rfl) rfl ?_ -- t11
  refine WL.y (Yl.move rfl) rfl ?_ -- t12
  refine WL.nil ?_
  refine WC.block ?_
  refine WC.loop (α := Unit) (fun _ => [(5, .int .u64 0), (11, .int .i64 ((0 : Nat) : Int)), (12, .int .i64 0)]) (fun _ => []) (fun _ => True) (fun _ => 0) () trivial ⟨(by repeat (first | exact Sub.nil | refine Sub.cons rfl ?_)), _, (by repeat (first | exact TakeL.nil | (apply TakeL.cons; · repeat (first | exact Take1.head | apply Take1.tail))))⟩ ?_
  intro _ _
  refine WC.seq ?_
  refine WC.region ?_
  refine WL.y (Yl.lss rfl rfl) rfl ?_ -- t13
  refine WL.nil ?_
  refine WC.seq ?_
  refine WC.condF rfl (by first | rfl | (simp; done) | (simp; omega)) ?_
  refine WC.exit ?_
  refine WC.seq ?_
  refine WC.region ?_
  refine WL.y (Yl.move rfl) rfl ?_ -- t22
  refine WL.y (Yl.assign rfl) rfl ?_ -- t4
  refine WL.nil ?_
  refine WC.ret ?_
  repeat (first | (with_reducible refine peelT ?_) | (with_reducible refine peelB ?_) | (with_reducible refine peelTX ?_) | (with_reducible refine peelBX ?_) | (with_reducible refine peelBN ?_) | (with_reducible refine peelBO rfl ?_))
  exact ret1 (.inr rfl) Try.results42 rfl fun w' h => ⟨(), trivial, rfl, h.sub (by repeat (first | exact TakeL.nil | (apply TakeL.cons; · repeat (first | exact Take1.head | apply Take1.tail))))⟩
theorem inU8_nil (w : World) (hw : OK w (fpL []) [] w) : Fn Try.prog 30 [.pointer none] [] w (fun _ : Unit => True) (fun _ => .int .u8 0) (fun _ => []) := by
  refine enterF Try.func30 rfl Try.ntmps30 rfl hw ?_
  refine WC.seq ?_
  refine WC.region ?_
  refine WL.y (Yl.assign rfl) rfl ?_ -- t2
  refine WL.nil ?_
  refine WC.seq ?_
  refine WC.region ?_
  refine WL.y (Yl.move rfl) rfl ?_ -- t3
  refine WL.callC (xs := [.tmp 3, _]) (cap := []) rfl rfl en42 (by repeat (first | exact TakeL.nil | (apply TakeL.cons; · repeat (first | exact Take1.head | apply Take1.tail)))) (fun w hw => next_nil 1 w hw.left.here) rfl ?_ -- t4 (*hailer/wire.In).next
  rintro ⟨⟩ -
  refine WL.y (Yl.conv un51 un5 rfl rfl) rfl ?_ -- t5
  refine WL.y (Yl.assign rfl) rfl ?_ -- t2
  refine WL.nil ?_
  refine WC.ret ?_
  repeat (first | (with_reducible refine peelT ?_) | (with_reducible refine peelB ?_) | (with_reducible refine peelTX ?_) | (with_reducible refine peelBX ?_) | (with_reducible refine peelBN ?_) | (with_reducible refine peelBO rfl ?_))
  exact ret1 (.inr rfl) Try.results30 rfl fun w' h => ⟨(), trivial, rfl, h.sub (by repeat (first | exact TakeL.nil | (apply TakeL.cons; · repeat (first | exact Take1.head | apply Take1.tail))))⟩
theorem inU32_nil (w : World) (hw : OK w (fpL []) [] w) : Fn Try.prog 31 [.pointer none] [] w (fun _ : Unit => True) (fun _ => .int .u32 0) (fun _ => []) := by
  refine enterF Try.func31 rfl Try.ntmps31 rfl hw ?_
  refine WC.seq ?_
  refine WC.region ?_
  refine WL.y (Yl.assign rfl) rfl ?_ -- t2
  refine WL.nil ?_
  refine WC.seq ?_
  refine WC.region ?_
  refine WL.y (Yl.move rfl) rfl ?_ -- t3
  refine WL.callC (xs := [.tmp 3, _]) (cap := []) rfl rfl en42 (by repeat (first | exact TakeL.nil | (apply TakeL.cons; · repeat (first | exact Take1.head | apply Take1.tail)))) (fun w hw => next_nil 4 w hw.left.here) rfl ?_ -- t4 (*hailer/wire.In).next
  rintro ⟨⟩ -
  refine WL.y (Yl.conv un51 un49 rfl rfl) rfl ?_ -- t5
  refine WL.y (Yl.assign rfl) rfl ?_ -- t2
  refine WL.nil ?_
  refine WC.ret ?_
  repeat (first | (with_reducible refine peelT ?_) | (with_reducible refine peelB ?_) | (with_reducible refine peelTX ?_) | (with_reducible refine peelBX ?_) | (with_reducible refine peelBN ?_) | (with_reducible refine peelBO rfl ?_))
  exact ret1 (.inr rfl) Try.results31 rfl fun w' h => ⟨(), trivial, rfl, h.sub (by repeat (first | exact TakeL.nil | (apply TakeL.cons; · repeat (first | exact Take1.head | apply Take1.tail))))⟩
theorem inU64_nil (w : World) (hw : OK w (fpL []) [] w) : Fn Try.prog 32 [.pointer none] [] w (fun _ : Unit => True) (fun _ => .int .u64 0) (fun _ => []) := by
  refine enterF Try.func32 rfl Try.ntmps32 rfl hw ?_
  refine WC.seq ?_
  refine WC.region ?_
  refine WL.y (Yl.assign rfl) rfl ?_ -- t2
  refine WL.nil ?_
  refine WC.seq ?_
  refine WC.region ?_
  refine WL.y (Yl.move rfl) rfl ?_ -- t3
  refine WL.callC (xs := [.tmp 3, _]) (cap := []) rfl rfl en42 (by repeat (first | exact TakeL.nil | (apply TakeL.cons; · repeat (first | exact Take1.head | apply Take1.tail)))) (fun w hw => next_nil 8 w hw.left.here) rfl ?_ -- t4 (*hailer/wire.In).next
  rintro ⟨⟩ -
  refine WL.y (Yl.assign rfl) rfl ?_ -- t2
  refine WL.nil ?_
  refine WC.ret ?_
  repeat (first | (with_reducible refine peelT ?_) | (with_reducible refine peelB ?_) | (with_reducible refine peelTX ?_) | (with_reducible refine peelBX ?_) | (with_reducible refine peelBN ?_) | (with_reducible refine peelBO rfl ?_))
  exact ret1 (.inr rfl) Try.results32 rfl fun w' h => ⟨(), trivial, rfl, h.sub (by repeat (first | exact TakeL.nil | (apply TakeL.cons; · repeat (first | exact Take1.head | apply Take1.tail))))⟩
theorem inFlag_nil (w : World) (hw : OK w (fpL []) [] w) : Fn Try.prog 21 [.pointer none] [] w (fun _ : Unit => True) (fun _ => .bool false) (fun _ => []) := by
  refine enterF Try.func21 rfl Try.ntmps21 rfl hw ?_
  refine WC.seq ?_
  refine WC.region ?_
  refine WL.y (Yl.assign rfl) rfl ?_ -- t2
  refine WL.nil ?_
  refine WC.seq ?_
  refine WC.region ?_
  refine WL.y (Yl.move rfl) rfl ?_ -- t4
  refine WL.callC (xs := [.tmp 4, _]) (cap := []) rfl rfl en42 (by repeat (first | exact TakeL.nil | (apply TakeL.cons; · repeat (first | exact Take1.head | apply Take1.tail)))) (fun w hw => next_nil 1 w hw.left.here) rfl ?_ -- t5 (*hailer/wire.In).next
  rintro ⟨⟩ -
  refine WL.y (Yl.assign rfl) rfl ?_ -- t3
  refine WL.nil ?_
  refine WC.seq ?_
  refine WC.seq ?_
  refine WC.region ?_
  refine WL.y (Yl.move rfl) rfl ?_ -- t6
  refine WL.y (Yl.gtr rfl rfl) rfl ?_ -- t7
  refine WL.nil ?_
  refine WC.condF rfl (by first | rfl | (simp; done) | (simp; omega)) ?_
  refine WC.skip ?_
  refine WC.seq ?_
  refine WC.region ?_
  refine WL.y (Yl.move rfl) rfl ?_ -- t11
  refine WL.y (Yl.eql rfl rfl) rfl ?_ -- t12
  refine WL.y (Yl.assign rfl) rfl ?_ -- t2
  refine WL.nil ?_
  refine WC.ret ?_
  repeat (first | (with_reducible refine peelT ?_) | (with_reducible refine peelB ?_) | (with_reducible refine peelTX ?_) | (with_reducible refine peelBX ?_) | (with_reducible refine peelBN ?_) | (with_reducible refine peelBO rfl ?_))
  exact ret1 (.inr rfl) Try.results21 rfl fun w' h => ⟨(), trivial, rfl, h.sub (by repeat (first | exact TakeL.nil | (apply TakeL.cons; · repeat (first | exact Take1.head | apply Take1.tail))))⟩
theorem inFixed_nil (k : Int) (w : World) (hw : OK w (fpL []) [] w) : Fn Try.prog 33 [.pointer none, .int .i64 k] [] w (fun _ : Unit => True) (fun _ => .slice none 0 0) (fun _ => []) := by
  refine enterF Try.func33 rfl Try.ntmps33 rfl hw ?_
  refine WC.seq ?_
  refine WC.region ?_
  refine WL.y (Yl.assign rfl) rfl ?_ -- t4
  refine WL.nil ?_
  refine WC.seq ?_
  refine WC.region ?_
  refine WL.y (Yl.move rfl) rfl ?_ -- t5
  refine WL.y (Yl.move rfl) rfl ?_ -- t6
  refine WL.callC (xs := [.tmp 5, .tmp 6]) (cap := []) rfl rfl en46 (by repeat (first | exact TakeL.nil | (apply TakeL.cons; · repeat (first | exact Take1.head | apply Take1.tail)))) (fun w hw => take_nil k w hw.left.here) rfl ?_ -- t7 (*hailer/wire.In).take
  rintro ⟨⟩ -
  refine WL.y (Yl.assign rfl) rfl ?_ -- t4
  refine WL.nil ?_
  refine WC.ret ?_
  repeat (first | (with_reducible refine peelT ?_) | (with_reducible refine peelB ?_) | (with_reducible refine peelTX ?_) | (with_reducible refine peelBX ?_) | (with_reducible refine peelBN ?_) | (with_reducible refine peelBO rfl ?_))
  exact ret1 (.inr rfl) Try.results33 rfl fun w' h => ⟨(), trivial, rfl, h.sub (by repeat (first | exact TakeL.nil | (apply TakeL.cons; · repeat (first | exact Take1.head | apply Take1.tail))))⟩
theorem inMany_nil (most : Int) (w : World) (hw : OK w (fpL []) [] w) : Fn Try.prog 43 [.pointer none, .int .i64 most] [] w (fun _ : Unit => True) (fun _ => .int .i64 (-1)) (fun _ => []) := by
  refine enterF Try.func43 rfl Try.ntmps43 rfl hw ?_
  refine WC.seq ?_
  refine WC.region ?_
  refine WL.y (Yl.assign rfl) rfl ?_ -- t4
  refine WL.nil ?_
  refine WC.seq ?_
  refine WC.region ?_
  refine WL.y (Yl.move rfl) rfl ?_ -- t6
  refine WL.callC (xs := [.tmp 6, _]) (cap := []) rfl rfl en42 (by repeat (first | exact TakeL.nil | (apply TakeL.cons; · repeat (first | exact Take1.head | apply Take1.tail)))) (fun w hw => next_nil 2 w hw.left.here) rfl ?_ -- t7 (*hailer/wire.In).next
  rintro ⟨⟩ -
  refine WL.y (Yl.conv un51 un3 rfl rfl) rfl ?_ -- t8
  refine WL.y (Yl.assign rfl) rfl ?_ -- t5
  refine WL.nil ?_
  refine WC.seq ?_
  refine WC.seq ?_
  refine WC.region ?_
  refine WL.y (Yl.move rfl) rfl ?_ -- t9
  refine WL.y (Yl.nilNe un35 rfl rfl) rfl ?_ -- t10
  refine WL.know (t := 10) (b' := false) rfl (by first | rfl | (simp; done) | (simp; omega)) ?_
  refine WL.y (Yl.move rfl) rfl ?_ -- t11
  refine WL.off rfl rfl rfl rfl ?_ -- t12
  refine WL.off rfl rfl rfl rfl ?_ -- t13
  refine WL.off rfl rfl rfl rfl ?_ -- t14
  refine WL.y (Yl.pickF rfl rfl) rfl ?_ -- t15
  refine WL.nil ?_
  refine WC.condF rfl (by first | rfl | (simp; done) | (simp; omega)) ?_
  refine WC.skip ?_
  refine WC.seq ?_
  refine WC.seq ?_
  refine WC.region ?_
  refine WL.y (Yl.move rfl) rfl ?_ -- t19
  refine WL.y (Yl.nilEq un35 rfl rfl) rfl ?_ -- t20
  refine WL.know (t := 20) (b' := true) rfl (by first | rfl | (simp; done) | (simp; omega)) ?_
  refine WL.y (Yl.move rfl) rfl ?_ -- t21
  refine WL.off rfl rfl rfl rfl ?_ -- t22
  refine WL.off rfl rfl rfl rfl ?_ -- t23
  refine WL.off rfl rfl rfl rfl ?_ -- t24
  refine WL.off rfl rfl rfl rfl ?_ -- t25
  refine WL.y (Yl.pickT rfl rfl) rfl ?_ -- t26
  refine WL.nil ?_
  refine WC.condT rfl (by first | rfl | (simp; done) | (simp; omega)) ?_
  refine WC.seq ?_
  refine WC.region ?_
  refine WL.y (Yl.assign rfl) rfl ?_ -- t4
  refine WL.nil ?_
  refine WC.ret ?_
  repeat (first | (with_reducible refine peelT ?_) | (with_reducible refine peelB ?_) | (with_reducible refine peelTX ?_) | (with_reducible refine peelBX ?_) | (with_reducible refine peelBN ?_) | (with_reducible refine peelBO rfl ?_))
  exact ret1 (.inr rfl) Try.results43 rfl fun w' h => ⟨(), trivial, rfl, h.sub (by repeat (first | exact TakeL.nil | (apply TakeL.cons; · repeat (first | exact Take1.head | apply Take1.tail))))⟩
theorem inSized_nil (most : Int) (w : World) (hw : OK w (fpL []) [] w) : Fn Try.prog 34 [.pointer none, .int .i64 most] [] w (fun _ : Unit => True) (fun _ => .slice none 0 0) (fun _ => []) := by
  refine enterF Try.func34 rfl Try.ntmps34 rfl hw ?_
  refine WC.seq ?_
  refine WC.region ?_
  refine WL.y (Yl.assign rfl) rfl ?_ -- t4
  refine WL.nil ?_
  refine WC.seq ?_
  refine WC.seq ?_
  refine WC.region ?_
  refine WL.y (Yl.move rfl) rfl ?_ -- t6
  refine WL.y (Yl.move rfl) rfl ?_ -- t7
  refine WL.callC (xs := [.tmp 6, .tmp 7]) (cap := []) rfl rfl en43 (by repeat (first | exact TakeL.nil | (apply TakeL.cons; · repeat (first | exact Take1.head | apply Take1.tail)))) (fun w hw => inMany_nil most w hw.left.here) rfl ?_ -- t8 (*hailer/wire.In).many
  rintro ⟨⟩ -
  refine WL.y (Yl.assign rfl) rfl ?_ -- t5
  refine WL.nil ?_
  refine WC.seq ?_
  refine WC.region ?_
  refine WL.y (Yl.move rfl) rfl ?_ -- t9
  refine WL.y (Yl.geq rfl rfl) rfl ?_ -- t10
  refine WL.nil ?_
  refine WC.condF rfl (by first | rfl | (simp; done) | (simp; omega)) ?_
  refine WC.skip ?_
  refine WC.seq ?_
  refine WC.region ?_
  refine WL.y (Yl.assign rfl) rfl ?_ -- t4
  refine WL.nil ?_
  refine WC.ret ?_
  repeat (first | (with_reducible refine peelT ?_) | (with_reducible refine peelB ?_) | (with_reducible refine peelTX ?_) | (with_reducible refine peelBX ?_) | (with_reducible refine peelBN ?_) | (with_reducible refine peelBO rfl ?_))
  exact ret1 (.inr rfl) Try.results34 rfl fun w' h => ⟨(), trivial, rfl, h.sub (by repeat (first | exact TakeL.nil | (apply TakeL.cons; · repeat (first | exact Take1.head | apply Take1.tail))))⟩
theorem takeList_nil (most : Int) (fv : Value) (w : World) (hw : OK w (fpL []) [] w) : Fn Try.prog 35 [.pointer none, .int .i64 most, fv] [] w (fun _ : Unit => True) (fun _ => .slice none 0 0) (fun _ => []) := by
  refine enterF Try.func35 rfl Try.ntmps35 rfl hw ?_
  refine WC.seq ?_
  refine WC.region ?_
  refine WL.y (Yl.assign rfl) rfl ?_ -- t6
  refine WL.nil ?_
  refine WC.seq ?_
  refine WC.seq ?_
  refine WC.region ?_
  refine WL.y (Yl.move rfl) rfl ?_ -- t9
  refine WL.y (Yl.nilNe un35 rfl rfl) rfl ?_ -- t10
  refine WL.know (t := 10) (b' := false) rfl (by first | rfl | (simp; done) | (simp; omega)) ?_
  refine WL.y (Yl.move rfl) rfl ?_ -- t11
  refine WL.off rfl rfl rfl rfl ?_ -- t12
  refine WL.off rfl rfl rfl rfl ?_ -- t13
  refine WL.y (Yl.pickF rfl rfl) rfl ?_ -- t14
  refine WL.nil ?_
  refine WC.condF rfl (by first | rfl | (simp; done) | (simp; omega)) ?_
  refine WC.skip ?_
  refine WC.seq ?_
  refine WC.region ?_
  refine WL.y (Yl.assign rfl) rfl ?_ -- t7
  refine WL.nil ?_
  refine WC.seq ?_
  refine WC.seq ?_
  refine WC.region ?_
  refine WL.y (Yl.move rfl) rfl ?_ -- t18
  refine WL.y (Yl.move rfl) rfl ?_ -- t19
  refine WL.callC (xs := [.tmp 18, .tmp 19]) (cap := []) rfl rfl en43 (by repeat (first | exact TakeL.nil | (apply TakeL.cons; · repeat (first | exact Take1.head | apply Take1.tail)))) (fun w hw => inMany_nil most w hw.left.here) rfl ?_ -- t20 (*hailer/wire.In).many
  rintro ⟨⟩ -
  refine WL.y (Yl.assign rfl) rfl ?_ -- t8
  refine WL.nil ?_
  refine WC.block ?_
  refine WC.loop (α := Unit) (fun _ => [(0, .pointer none), (6, .slice none 0 0), (7, .slice none 0 0), (8, .int .i64 (-1))]) (fun _ => []) (fun _ => True) (fun _ => 0) () trivial ⟨(by repeat (first | exact Sub.nil | refine Sub.cons rfl ?_)), _, (by repeat (first | exact TakeL.nil | (apply TakeL.cons; · repeat (first | exact Take1.head | apply Take1.tail))))⟩ ?_
  intro _ _
  refine WC.seq ?_
  refine WC.seq ?_
  refine WC.region ?_
  refine WL.y (Yl.move rfl) rfl ?_ -- t21
  refine WL.y (Yl.gtr rfl rfl) rfl ?_ -- t22
  refine WL.know (t := 22) (b' := false) rfl (by first | rfl | (simp; done) | (simp; omega)) ?_
  refine WL.y (Yl.move rfl) rfl ?_ -- t23
  refine WL.off rfl rfl rfl rfl ?_ -- t24
  refine WL.off rfl rfl rfl rfl ?_ -- t25
  refine WL.off rfl rfl rfl rfl ?_ -- t26
  refine WL.off rfl rfl rfl rfl ?_ -- t27
  refine WL.off rfl rfl rfl rfl ?_ -- t28
  refine WL.y (Yl.pickF rfl rfl) rfl ?_ -- t29
  refine WL.nil ?_
  refine WC.condF rfl (by first | rfl | (simp; done) | (simp; omega)) ?_
  refine WC.exit ?_
  refine WC.seq ?_
  refine WC.seq ?_
  refine WC.region ?_
  refine WL.y (Yl.move rfl) rfl ?_ -- t38
  refine WL.y (Yl.nilEq un35 rfl rfl) rfl ?_ -- t39
  refine WL.know (t := 39) (b' := true) rfl (by first | rfl | (simp; done) | (simp; omega)) ?_
  refine WL.y (Yl.move rfl) rfl ?_ -- t40
  refine WL.off rfl rfl rfl rfl ?_ -- t41
  refine WL.off rfl rfl rfl rfl ?_ -- t42
  refine WL.off rfl rfl rfl rfl ?_ -- t43
  refine WL.off rfl rfl rfl rfl ?_ -- t44
  refine WL.y (Yl.pickT rfl rfl) rfl ?_ -- t45
  refine WL.nil ?_
  refine WC.condT rfl (by first | rfl | (simp; done) | (simp; omega)) ?_
  refine WC.seq ?_
  refine WC.region ?_
  refine WL.y (Yl.assign rfl) rfl ?_ -- t6
  refine WL.nil ?_
  refine WC.ret ?_
  repeat (first | (with_reducible refine peelT ?_) | (with_reducible refine peelB ?_) | (with_reducible refine peelTX ?_) | (with_reducible refine peelBX ?_) | (with_reducible refine peelBN ?_) | (with_reducible refine peelBO rfl ?_))
  exact ret1 (.inr rfl) Try.results35 rfl fun w' h => ⟨(), trivial, rfl, h.sub (by repeat (first | exact TakeL.nil | (apply TakeL.cons; · repeat (first | exact Take1.head | apply Take1.tail))))⟩
theorem left_nil (w : World) (hw : OK w (fpL []) [] w) : Fn Try.prog 15 [.pointer none] [] w (fun _ : Unit => True) (fun _ => .int .i64 0) (fun _ => []) := by
  refine enterF Try.func15 rfl Try.ntmps15 rfl hw ?_
  refine WC.seq ?_
  refine WC.region ?_
  refine WL.y (Yl.assign rfl) rfl ?_ -- t2
  refine WL.nil ?_
  refine WC.seq ?_
  refine WC.seq ?_
  refine WC.region ?_
  refine WL.y (Yl.move rfl) rfl ?_ -- t3
  refine WL.y (Yl.nilEq un35 rfl rfl) rfl ?_ -- t4
  refine WL.know (t := 4) (b' := true) rfl (by first | rfl | (simp; done) | (simp; omega)) ?_
  refine WL.y (Yl.move rfl) rfl ?_ -- t5
  refine WL.off rfl rfl rfl rfl ?_ -- t6
  refine WL.off rfl rfl rfl rfl ?_ -- t7
  refine WL.off rfl rfl rfl rfl ?_ -- t8
  refine WL.off rfl rfl rfl rfl ?_ -- t9
  refine WL.y (Yl.pickT rfl rfl) rfl ?_ -- t10
  refine WL.nil ?_
  refine WC.condT rfl (by first | rfl | (simp; done) | (simp; omega)) ?_
  refine WC.seq ?_
  refine WC.region ?_
  refine WL.y (Yl.assign rfl) rfl ?_ -- t2
  refine WL.nil ?_
  refine WC.ret ?_
  repeat (first | (with_reducible refine peelT ?_) | (with_reducible refine peelB ?_) | (with_reducible refine peelTX ?_) | (with_reducible refine peelBX ?_) | (with_reducible refine peelBN ?_) | (with_reducible refine peelBO rfl ?_))
  exact ret1 (.inr rfl) Try.results15 rfl fun w' h => ⟨(), trivial, rfl, h.sub (by repeat (first | exact TakeL.nil | (apply TakeL.cons; · repeat (first | exact Take1.head | apply Take1.tail))))⟩
theorem end_nil (w : World) (hw : OK w (fpL []) [] w) : Fn Try.prog 16 [.pointer none] [] w (fun _ : Unit => True) (fun _ => .int .i64 1) (fun _ => []) := by
  refine enterF Try.func16 rfl Try.ntmps16 rfl hw ?_
  refine WC.seq ?_
  refine WC.region ?_
  refine WL.y (Yl.assign rfl) rfl ?_ -- t2
  refine WL.nil ?_
  refine WC.seq ?_
  refine WC.block ?_
  refine WC.seq ?_
  refine WC.region ?_
  refine WL.y (Yl.move rfl) rfl ?_ -- t4
  refine WL.y (Yl.nilEq un35 rfl rfl) rfl ?_ -- t5
  refine WL.y (Yl.assign rfl) rfl ?_ -- t3
  refine WL.nil ?_
  refine WC.condT rfl (by first | rfl | (simp; done) | (simp; omega)) ?_
  refine WC.seq ?_
  refine WC.region ?_
  refine WL.y (Yl.assign rfl) rfl ?_ -- t2
  refine WL.nil ?_
  refine WC.ret ?_
  repeat (first | (with_reducible refine peelT ?_) | (with_reducible refine peelB ?_) | (with_reducible refine peelTX ?_) | (with_reducible refine peelBX ?_) | (with_reducible refine peelBN ?_) | (with_reducible refine peelBO rfl ?_))
  exact ret1 (.inr rfl) Try.results16 rfl fun w' h => ⟨(), trivial, rfl, h.sub (by repeat (first | exact TakeL.nil | (apply TakeL.cons; · repeat (first | exact Take1.head | apply Take1.tail))))⟩
end Go.Proofs.Ytahkaepmfnmhcaa
