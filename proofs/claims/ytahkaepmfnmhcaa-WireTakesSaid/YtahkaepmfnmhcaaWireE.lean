/- Fields' bytes: the reference's walks; fields put on nothing. -/
import Derived.Test.YtahkaepmfnmhcaaWireD
import Derived.Test.YtahkaepmfnmhcaaRecP
namespace Go.Proofs.Ytahkaepmfnmhcaa
open Go Go.RowKit

theorem lput_nil (fs : List Fd) (v : Value) (hok : ∀ f ∈ fs, f.ok) (w : World) (hx : FdS w (fpL []) v fs) (hw : OK w (fpL []) [] w) :
    Fn Try.prog 9 [.pointer none, v] [] w (fun _ : Unit => True) (fun _ => .tuple #[]) (fun _ => []) := by
  obtain ⟨al, cl, rfl, hcl, hml⟩ := hx.rows.rd.form
  unfold maxLen at hml
  refine enterF Try.func9 rfl Try.ntmps9 rfl hw ?_
  refine WC.seq ?_
  refine WC.region ?_
  refine WL.y (Yl.move rfl) rfl ?_ -- t6
  refine WL.y (Yl.len un22 rfl) rfl ?_ -- t7
  refine WL.y (Yl.move rfl) rfl ?_ -- t8
  refine WL.nil ?_
  refine WC.block ?_
  refine WC.loop (α := Nat) (fun j => [(0, .pointer none), (6, .slice al fs.length cl), (7, .int .i64 (fs.length : Int)), (8, .int .i64 (j : Int))]) (fun _ => []) (fun j => j ≤ fs.length) (fun j => fs.length - j) 0 (Nat.zero_le _) ⟨(by repeat (first | exact Sub.nil | refine Sub.cons rfl ?_)), _, (by repeat (first | exact TakeL.nil | (apply TakeL.cons; · repeat (first | exact Take1.head | apply Take1.tail))))⟩ ?_
  intro j hj
  refine WC.seq ?_
  refine WC.region ?_
  refine WL.y (Yl.lss rfl rfl) rfl ?_ -- t9
  refine WL.nil ?_
  refine WC.seq ?_
  refine WC.condD rfl (fun g9 => ?_) (fun g9 => ?_)
  · refine WC.skip ?_
    refine WC.seq ?_
    refine WC.block ?_
    refine WC.seq ?_
    refine WC.region ?_
    obtain ⟨f, hfj⟩ : ∃ f, fs[j]? = some f := ⟨_, List.getElem?_eq_getElem (by omega)⟩
    have hfm := List.mem_of_getElem? hfj
    have hfo := hok f hfm
    have hn := hfo.n
    refine WL.y (Yl.index un22 sz54 rfl rfl (Reads.s hx.rows) rfl (by omega)) rfl ?_ -- t10
    refine WL.y (Yl.loadV (j := j) (u := f) fdV fdAll rfl (Reads.s hx.rows) rfl hfj) rfl ?_
    refine WL.to (To.alloc (cs := [.int .u8 0, .int .u64 0, .slice none 0 0, .slice none 0 0, .int .i64 0]) zr54 rfl) rfl ?_ -- t5
    intro b5
    refine WL.sto (Sto.agg sz54 rfl rfl (by repeat (first | exact Take1.head | apply Take1.tail)) f.ones rfl (by rfl) (by rfl)) (fun _ h => nomatch h) ?_ -- st 1
    refine WL.nil ?_
    refine WC.seq ?_
    refine WC.region ?_
    refine WL.y (Yl.field fo54_0 rfl) rfl ?_ -- t12
    refine WL.y (Yl.load on5 rfl (by repeat (first | exact Take1.head | apply Take1.tail)) (by rfl)) rfl ?_ -- t13
    refine WL.nil ?_
    refine WC.block ?_
    refine WC.seq ?_
    refine WC.region ?_
    refine WL.y (Yl.eql rfl rfl) rfl ?_ -- t15
    refine WL.y (Yl.assign rfl) rfl ?_ -- t14
    refine WL.nil ?_
    refine WC.condD rfl (fun g14 => ?_) (fun g14 => ?_)
    · refine WC.region ?_
      refine WL.y (Yl.move rfl) rfl ?_ -- t16
      refine WL.y (Yl.field fo54_1 rfl) rfl ?_ -- t17
      refine WL.y (Yl.load on51 rfl (by repeat (first | exact Take1.head | apply Take1.tail)) (by rfl)) rfl ?_ -- t18
      refine WL.y (Yl.conv un51 un5 rfl (show IntKind.u8.wrap f.n = f.n % 256 by rw [IntKind.wrap_u8])) rfl ?_ -- t19
      refine WL.to (To.buildSlice (vs := [.int .u8 (f.n % 256)]) un28 zs5 rfl rfl (by simp [Value.cells]) (by decide) (by decide)) rfl ?_ -- t20
      intro b20
      refine WL.callC (xs := [.tmp 16, .tmp 20]) (cap := []) rfl rfl en18 (by repeat (first | exact TakeL.nil | (apply TakeL.cons; · repeat (first | exact Take1.head | apply Take1.tail)))) (fun w hw => outU8_nil (.slice (some ⟨b20, 0, none⟩) 1 1) w hw.left.here) rfl ?_ -- t21 (*hailer/wire.Out).U8
      rintro ⟨⟩ -
      refine WL.nil ?_
      refine WC.region ?_
      refine WL.y (Yl.add rfl rfl (IntWalk.i64_in _ (by omega))) rfl ?_ -- t68
      refine WL.y (Yl.move rfl) rfl ?_ -- t8
      refine WL.nil ?_
      exact ⟨rfl, j + 1, by omega, by omega, (by repeat (first | exact Sub.nil | refine Sub.cons rfl ?_)), _, (by repeat (first | exact TakeL.nil | (apply TakeL.cons; · repeat (first | exact Take1.head | apply Take1.tail))))⟩
    · refine WC.seq ?_
      refine WC.region ?_
      refine WL.y (Yl.eql rfl rfl) rfl ?_ -- t23
      refine WL.y (Yl.assign rfl) rfl ?_ -- t22
      refine WL.nil ?_
      refine WC.condD rfl (fun g22 => ?_) (fun g22 => ?_)
      · refine WC.region ?_
        refine WL.y (Yl.move rfl) rfl ?_ -- t24
        refine WL.y (Yl.field fo54_1 rfl) rfl ?_ -- t25
        refine WL.y (Yl.load on51 rfl (by repeat (first | exact Take1.head | apply Take1.tail)) (by rfl)) rfl ?_ -- t26
        refine WL.y (Yl.conv un51 un49 rfl (show IntKind.u32.wrap f.n = f.n % 4294967296 by rw [IntKind.wrap_u32])) rfl ?_ -- t27
        refine WL.to (To.buildSlice (vs := [.int .u32 (f.n % 4294967296)]) un52 zs49 rfl rfl (by simp [Value.cells]) (by decide) (by decide)) rfl ?_ -- t28
        intro b28
        refine WL.callC (xs := [.tmp 24, .tmp 28]) (cap := []) rfl rfl en19 (by repeat (first | exact TakeL.nil | (apply TakeL.cons; · repeat (first | exact Take1.head | apply Take1.tail)))) (fun w hw => outU32_nil [f.n % 4294967296] (.slice (some ⟨b28, 0, none⟩) 1 1) (by intro x hx; simp at hx; omega) w (hw.src (A := []) (RdOf.blk (cs := [.int .u32 (f.n % 4294967296)]) (Nat.le_refl _) (by unfold maxLen; omega) (by simp) rfl) (by repeat (first | exact Take1.head | apply Take1.tail))) hw.left.here) rfl ?_ -- t29 (*hailer/wire.Out).U32
        rintro ⟨⟩ -
        refine WL.nil ?_
        refine WC.region ?_
        refine WL.y (Yl.add rfl rfl (IntWalk.i64_in _ (by omega))) rfl ?_ -- t68
        refine WL.y (Yl.move rfl) rfl ?_ -- t8
        refine WL.nil ?_
        exact ⟨rfl, j + 1, by omega, by omega, (by repeat (first | exact Sub.nil | refine Sub.cons rfl ?_)), _, (by repeat (first | exact TakeL.nil | (apply TakeL.cons; · repeat (first | exact Take1.head | apply Take1.tail))))⟩
      · refine WC.seq ?_
        refine WC.region ?_
        refine WL.y (Yl.eql rfl rfl) rfl ?_ -- t31
        refine WL.y (Yl.assign rfl) rfl ?_ -- t30
        refine WL.nil ?_
        refine WC.condD rfl (fun g30 => ?_) (fun g30 => ?_)
        · refine WC.region ?_
          refine WL.y (Yl.move rfl) rfl ?_ -- t32
          refine WL.y (Yl.field fo54_1 rfl) rfl ?_ -- t33
          refine WL.y (Yl.load on51 rfl (by repeat (first | exact Take1.head | apply Take1.tail)) (by rfl)) rfl ?_ -- t34
          refine WL.to (To.buildSlice (vs := [.int .u64 f.n]) un82 zs51 rfl rfl (by simp [Value.cells]) (by decide) (by decide)) rfl ?_ -- t35
          intro b35
          refine WL.callC (xs := [.tmp 32, .tmp 35]) (cap := []) rfl rfl en24 (by repeat (first | exact TakeL.nil | (apply TakeL.cons; · repeat (first | exact Take1.head | apply Take1.tail)))) (fun w hw => outU64_nil [f.n] (.slice (some ⟨b35, 0, none⟩) 1 1) (by intro x hx; simp at hx; omega) w (hw.src (A := []) (RdOf.blk (cs := [.int .u64 f.n]) (Nat.le_refl _) (by unfold maxLen; omega) (by simp) rfl) (by repeat (first | exact Take1.head | apply Take1.tail))) hw.left.here) rfl ?_ -- t36 (*hailer/wire.Out).U64
          rintro ⟨⟩ -
          refine WL.nil ?_
          refine WC.region ?_
          refine WL.y (Yl.add rfl rfl (IntWalk.i64_in _ (by omega))) rfl ?_ -- t68
          refine WL.y (Yl.move rfl) rfl ?_ -- t8
          refine WL.nil ?_
          exact ⟨rfl, j + 1, by omega, by omega, (by repeat (first | exact Sub.nil | refine Sub.cons rfl ?_)), _, (by repeat (first | exact TakeL.nil | (apply TakeL.cons; · repeat (first | exact Take1.head | apply Take1.tail))))⟩
        · refine WC.seq ?_
          refine WC.region ?_
          refine WL.y (Yl.eql rfl rfl) rfl ?_ -- t38
          refine WL.y (Yl.assign rfl) rfl ?_ -- t37
          refine WL.nil ?_
          refine WC.condD rfl (fun g37 => ?_) (fun g37 => ?_)
          · refine WC.region ?_
            refine WL.y (Yl.move rfl) rfl ?_ -- t39
            refine WL.y (Yl.field fo54_1 rfl) rfl ?_ -- t40
            refine WL.y (Yl.load on51 rfl (by repeat (first | exact Take1.head | apply Take1.tail)) (by rfl)) rfl ?_ -- t41
            refine WL.y (Yl.neq rfl rfl) rfl ?_ -- t42
            refine WL.to (To.buildSlice (vs := [.bool (decide (f.n ≠ 0))]) un84 zs4 rfl rfl (by simp [Value.cells]) (by decide) (by decide)) rfl ?_ -- t43
            intro b43
            refine WL.callC (xs := [.tmp 39, .tmp 43]) (cap := []) rfl rfl en25 (by repeat (first | exact TakeL.nil | (apply TakeL.cons; · repeat (first | exact Take1.head | apply Take1.tail)))) (fun w hw => outFlag_nil [decide (f.n ≠ 0)] (.slice (some ⟨b43, 0, none⟩) 1 1) w (hw.src (A := []) (RdOf.blk (cs := [.bool (decide (f.n ≠ 0))]) (Nat.le_refl _) (by unfold maxLen; omega) (by simp) rfl) (by repeat (first | exact Take1.head | apply Take1.tail))) hw.left.here) rfl ?_ -- t44 (*hailer/wire.Out).Flag
            rintro ⟨⟩ -
            refine WL.nil ?_
            refine WC.region ?_
            refine WL.y (Yl.add rfl rfl (IntWalk.i64_in _ (by omega))) rfl ?_ -- t68
            refine WL.y (Yl.move rfl) rfl ?_ -- t8
            refine WL.nil ?_
            exact ⟨rfl, j + 1, by omega, by omega, (by repeat (first | exact Sub.nil | refine Sub.cons rfl ?_)), _, (by repeat (first | exact TakeL.nil | (apply TakeL.cons; · repeat (first | exact Take1.head | apply Take1.tail))))⟩
          · refine WC.seq ?_
            refine WC.region ?_
            refine WL.y (Yl.eql rfl rfl) rfl ?_ -- t46
            refine WL.y (Yl.assign rfl) rfl ?_ -- t45
            refine WL.nil ?_
            refine WC.condD rfl (fun g45 => ?_) (fun g45 => ?_)
            · refine WC.region ?_
              refine WL.y (Yl.move rfl) rfl ?_ -- t47
              refine WL.y (Yl.field fo54_2 rfl) rfl ?_ -- t48
              refine WL.y (Yl.load on28 rfl (by repeat (first | exact Take1.head | apply Take1.tail)) (by rfl)) rfl ?_ -- t49
              refine WL.to (To.buildSlice (vs := [.slice f.ba f.b.length f.bc]) un85 zs28 rfl rfl (by simp [Value.cells]) (by decide) (by decide)) rfl ?_ -- t50
              intro b50
              refine WL.callC (xs := [.tmp 47, .tmp 50]) (cap := []) rfl rfl en26 (by repeat (first | exact TakeL.nil | (apply TakeL.cons; · repeat (first | exact Take1.head | apply Take1.tail)))) (fun w hw => outFixed_nil [.slice f.ba f.b.length f.bc] (.slice (some ⟨b50, 0, none⟩) 1 1) w (hw.src (A := []) (RdOf.blk (cs := [.slice f.ba f.b.length f.bc]) (Nat.le_refl _) (by unfold maxLen; omega) (by simp) rfl) (by repeat (first | exact Take1.head | apply Take1.tail))) hw.left.here) rfl ?_ -- t51 (*hailer/wire.Out).Fixed
              rintro ⟨⟩ -
              refine WL.nil ?_
              refine WC.region ?_
              refine WL.y (Yl.add rfl rfl (IntWalk.i64_in _ (by omega))) rfl ?_ -- t68
              refine WL.y (Yl.move rfl) rfl ?_ -- t8
              refine WL.nil ?_
              exact ⟨rfl, j + 1, by omega, by omega, (by repeat (first | exact Sub.nil | refine Sub.cons rfl ?_)), _, (by repeat (first | exact TakeL.nil | (apply TakeL.cons; · repeat (first | exact Take1.head | apply Take1.tail))))⟩
            · refine WC.seq ?_
              refine WC.region ?_
              refine WL.y (Yl.eql rfl rfl) rfl ?_ -- t53
              refine WL.y (Yl.assign rfl) rfl ?_ -- t52
              refine WL.nil ?_
              refine WC.condD rfl (fun g52 => ?_) (fun g52 => ?_)
              · refine WC.region ?_
                refine WL.y (Yl.move rfl) rfl ?_ -- t54
                refine WL.y (Yl.field fo54_4 rfl) rfl ?_ -- t55
                refine WL.y (Yl.load on3 rfl (by repeat (first | exact Take1.head | apply Take1.tail)) (by rfl)) rfl ?_ -- t56
                refine WL.y (Yl.field fo54_2 rfl) rfl ?_ -- t57
                refine WL.y (Yl.load on28 rfl (by repeat (first | exact Take1.head | apply Take1.tail)) (by rfl)) rfl ?_ -- t58
                refine WL.callC (xs := [.tmp 54, .tmp 56, .tmp 58]) (cap := []) rfl rfl en20 (by repeat (first | exact TakeL.nil | (apply TakeL.cons; · repeat (first | exact Take1.head | apply Take1.tail)))) (fun w hw => outSized_nil f.most f.ba f.b.length f.bc w hw.left.here) rfl ?_ -- t59 (*hailer/wire.Out).Sized
                rintro ⟨⟩ -
                refine WL.nil ?_
                refine WC.region ?_
                refine WL.y (Yl.add rfl rfl (IntWalk.i64_in _ (by omega))) rfl ?_ -- t68
                refine WL.y (Yl.move rfl) rfl ?_ -- t8
                refine WL.nil ?_
                exact ⟨rfl, j + 1, by omega, by omega, (by repeat (first | exact Sub.nil | refine Sub.cons rfl ?_)), _, (by repeat (first | exact TakeL.nil | (apply TakeL.cons; · repeat (first | exact Take1.head | apply Take1.tail))))⟩
              · refine WC.seq ?_
                refine WC.region ?_
                refine WL.y (Yl.eql rfl rfl) rfl ?_ -- t61
                refine WL.y (Yl.assign rfl) rfl ?_ -- t60
                refine WL.nil ?_
                refine WC.condD rfl (fun g60 => ?_) (fun g60 => ?_)
                · refine WC.region ?_
                  refine WL.y (Yl.move rfl) rfl ?_ -- t62
                  refine WL.y (Yl.field fo54_4 rfl) rfl ?_ -- t63
                  refine WL.y (Yl.load on3 rfl (by repeat (first | exact Take1.head | apply Take1.tail)) (by rfl)) rfl ?_ -- t64
                  refine WL.y (Yl.field fo54_3 rfl) rfl ?_ -- t65
                  refine WL.y (Yl.load on52 rfl (by repeat (first | exact Take1.head | apply Take1.tail)) (by rfl)) rfl ?_ -- t66
                  refine WL.callC (xs := [.tmp 62, .tmp 64, .tmp 66, .func 28]) (cap := []) rfl rfl en27 (by repeat (first | exact TakeL.nil | (apply TakeL.cons; · repeat (first | exact Take1.head | apply Take1.tail)))) (fun w hw => putList_nil f.most f.la f.l.length f.lc _ w hw.left.here) rfl ?_ -- t67 hailer/wire.PutList[uint32]
                  rintro ⟨⟩ -
                  refine WL.nil ?_
                  refine WC.region ?_
                  refine WL.y (Yl.add rfl rfl (IntWalk.i64_in _ (by omega))) rfl ?_ -- t68
                  refine WL.y (Yl.move rfl) rfl ?_ -- t8
                  refine WL.nil ?_
                  exact ⟨rfl, j + 1, by omega, by omega, (by repeat (first | exact Sub.nil | refine Sub.cons rfl ?_)), _, (by repeat (first | exact TakeL.nil | (apply TakeL.cons; · repeat (first | exact Take1.head | apply Take1.tail))))⟩
                · refine WC.skip ?_
                  refine WC.region ?_
                  refine WL.y (Yl.add rfl rfl (IntWalk.i64_in _ (by omega))) rfl ?_ -- t68
                  refine WL.y (Yl.move rfl) rfl ?_ -- t8
                  refine WL.nil ?_
                  exact ⟨rfl, j + 1, by omega, by omega, (by repeat (first | exact Sub.nil | refine Sub.cons rfl ?_)), _, (by repeat (first | exact TakeL.nil | (apply TakeL.cons; · repeat (first | exact Take1.head | apply Take1.tail))))⟩
  · refine WC.exit ?_
    repeat (first | (with_reducible refine peelT ?_) | (with_reducible refine peelB ?_) | (with_reducible refine peelTX ?_) | (with_reducible refine peelBX ?_) | (with_reducible refine peelBN ?_) | (with_reducible refine peelBO rfl ?_))
    exact ret0 (.inl rfl) Try.results9 fun w' h => ⟨(), trivial, rfl, h.sub (by repeat (first | exact TakeL.nil | (apply TakeL.cons; · repeat (first | exact Take1.head | apply Take1.tail))))⟩

theorem rnumber8_any (n : Int) (many : Nat) (hn : U64 n) (hm : many ≤ 8) (w : World) (hw : OK w (fpL []) [] w) :
    Fn Try.prog 45 [.int .u64 n, .int .i64 (many : Int)] [] w (fun _ : Nat => True) (fun b => .slice (some ⟨b, 0, none⟩) many many) (fun b => [ownR (.slice (some ⟨b, 0, none⟩) many many) 5 1 many (ints .u8 (be n many))]) := by
  refine enterF Try.func45 rfl Try.ntmps45 rfl hw ?_
  refine WC.seq ?_
  refine WC.region ?_
  refine WL.y (Yl.assign rfl) rfl ?_ -- t4
  refine WL.nil ?_
  refine WC.seq ?_
  refine WC.region ?_
  refine WL.y (Yl.move rfl) rfl ?_ -- t7
  refine WL.to (To.makeSlice un28 zb28_5 rfl rfl rfl (by omega) (by unfold maxLen; omega)) rfl ?_ -- t8
  intro b8
  refine WL.view (fun w h => h.blkOwn (b := b8) (size := 1) (n := many) (by repeat (first | exact Take1.head | apply Take1.tail)) (by unfold maxLen; omega) (by simp)) ?_
  refine WL.y (Yl.assign rfl) rfl ?_ -- t5
  refine WL.nil ?_
  refine WC.seq ?_
  refine WC.seq ?_
  refine WC.region ?_
  refine WL.y (Yl.move rfl) rfl ?_ -- t9
  refine WL.y (Yl.sub rfl rfl (IntWalk.i64_in _ (by omega))) rfl ?_ -- t10
  refine WL.y (Yl.assign rfl) rfl ?_ -- t6
  refine WL.nil ?_
  refine WC.block ?_
  refine WC.loop (α := Nat) (fun j => [(0, .int .u64 (n / 2 ^ (8 * j))), (5, .slice (some ⟨b8, 0, none⟩) many many), (6, .int .i64 ((many : Int) - 1 - (j : Int)))]) (fun j => [ownR (.slice (some ⟨b8, 0, none⟩) many many) 5 1 many (ints .u8 (numK n many j))]) (fun j => j ≤ many) (fun j => many - j) 0 (Nat.zero_le _) ⟨(by refine Sub.cons (by simp; rfl) (Sub.cons rfl (Sub.cons ?_ Sub.nil)); show some (Value.int .i64 _) = some (Value.int .i64 _); congr 2; omega), _, (by rw [numK_zero]; exact (by repeat (first | exact TakeL.nil | (apply TakeL.cons; · repeat (first | exact Take1.head | apply Take1.tail)))))⟩ ?_
  intro j hj
  have hp : (0 : Int) < 2 ^ (8 * j) := Int.pow_pos (by decide)
  have hq : 0 ≤ n / 2 ^ (8 * j) := Int.ediv_nonneg hn.1 (by omega)
  have hq2 : n / 2 ^ (8 * j) < 18446744073709551616 := by have := Int.ediv_le_self (2 ^ (8 * j)) hn.1; have := hn.2; omega
  refine WC.seq ?_
  refine WC.seq ?_
  refine WC.region ?_
  refine WL.y (Yl.move rfl) rfl ?_ -- t11
  refine WL.y (Yl.geq rfl rfl) rfl ?_ -- t12
  refine WL.nil ?_
  refine WC.condD rfl (fun g12 => ?_) (fun g12 => ?_)
  · refine WC.skip ?_
    refine WC.seq ?_
    refine WC.block ?_
    refine WC.seq ?_
    refine WC.region ?_
    refine WL.y (Yl.move rfl) rfl ?_ -- t15
    refine WL.y (Yl.move rfl) rfl ?_ -- t16
    refine WL.y (Yl.move rfl) rfl ?_ -- t17
    refine WL.y (Yl.rem rfl rfl (by omega) (Int.tmod_eq_emod_of_nonneg hq)) rfl ?_
    refine WL.y (Yl.conv un51 un5 rfl (IntWalk.u8_in _ (by omega))) rfl ?_ -- t19
    refine WL.y (Yl.index un28 sz5 rfl rfl (Reads.own (by repeat (first | exact Take1.head | apply Take1.tail))) (show ((many : Int) - 1 - (j : Int)) = ((many - 1 - j : Nat) : Int) by omega) (by omega)) rfl ?_ -- t20
    refine WL.sto (Sto.elem sz5 rfl rfl (by repeat (first | exact Take1.head | apply Take1.tail)) rfl (by omega) (cs' := ints .u8 (numK n many (j + 1))) (numK_step n (by omega))) (fun _ h => nomatch h) ?_
    refine WL.nil ?_
    refine WC.region ?_
    refine WL.y (Yl.move rfl) rfl ?_ -- t21
    refine WL.y (Yl.quo rfl rfl (by omega) (r := n / 2 ^ (8 * (j + 1))) (by rw [Int.tdiv_eq_ediv_of_nonneg hq, u64_in _ (by omega)]; exact div256 n j)) rfl ?_
    refine WL.y (Yl.assign rfl) rfl ?_ -- t0
    refine WL.nil ?_
    refine WC.region ?_
    refine WL.y (Yl.move rfl) rfl ?_ -- t13
    refine WL.y (Yl.sub rfl rfl (IntWalk.i64_in _ (by omega))) rfl ?_ -- t14
    refine WL.y (Yl.assign rfl) rfl ?_ -- t6
    refine WL.nil ?_
    exact ⟨rfl, j + 1, by omega, by omega, (by refine Sub.cons rfl (Sub.cons rfl (Sub.cons ?_ Sub.nil)); show some (Value.int .i64 _) = some (Value.int .i64 _); congr 2; omega), _, (by repeat (first | exact TakeL.nil | (apply TakeL.cons; · repeat (first | exact Take1.head | apply Take1.tail))))⟩
  · refine WC.exit ?_
    refine WC.seq ?_
    refine WC.region ?_
    refine WL.y (Yl.move rfl) rfl ?_ -- t23
    refine WL.y (Yl.assign rfl) rfl ?_ -- t4
    refine WL.nil ?_
    refine WC.ret ?_
    repeat (first | (with_reducible refine peelT ?_) | (with_reducible refine peelB ?_) | (with_reducible refine peelTX ?_) | (with_reducible refine peelBX ?_) | (with_reducible refine peelBN ?_) | (with_reducible refine peelBO rfl ?_))
    have hj2 : j = many := by omega
    subst hj2
    exact ret1 (.inr rfl) Try.results45 rfl fun w' h => ⟨b8, trivial, rfl, by rw [numK_all] at h; exact h.sub (by repeat (first | exact TakeL.nil | (apply TakeL.cons; · repeat (first | exact Take1.head | apply Take1.tail))))⟩


def encF (f : Fd) : List Int :=
  if f.kind = 0 then [f.n % 256]
  else if f.kind = 1 then be (f.n % 4294967296) 4
  else if f.kind = 2 then be f.n 8
  else if f.kind = 3 then flagB (decide (f.n ≠ 0))
  else if f.kind = 4 then f.b
  else if f.kind = 5 then be f.b.length 2 ++ f.b
  else if f.kind = 6 then be f.l.length 2 ++ (b4 f.l).flatten
  else []
def okF (f : Fd) : Bool :=
  if f.kind = 5 then decide ((f.b.length : Int) ≤ f.most) && decide ((f.b.length : Int) < 65536)
  else if f.kind = 6 then decide ((f.l.length : Int) ≤ f.most) && decide ((f.l.length : Int) < 65536)
  else true
theorem be_1 (x : Int) : be x 1 = [x % 256] := by simp [be, beK]
theorem flat_b4 (l : List Int) : (b4 l).flatten.length = 4 * l.length := by rw [List.length_flatten]; exact total_b4 l

theorem rone_any (f : Fd) (hf : f.ok) (hsz : szF f ≤ 1000000) (w : World) (hx : RdS w (fpL []) (.slice f.ba f.b.length f.bc) 1 f.b.length (ints .u8 f.b)) (hl : RdS w (fpL []) (.slice f.la f.l.length f.lc) 1 f.l.length (ints .u32 f.l)) (hw : OK w (fpL []) [] w) :
    Fn Try.prog 29 [f.val] [] w (fun y : Option Addr × Nat => f.kind = 4 → y = (f.ba, f.bc)) (fun y => .tuple #[.slice y.1 (encF f).length y.2, .bool (okF f)]) (fun y => if f.kind = 4 then [] else [ownR (.slice y.1 (encF f).length y.2) 5 1 (encF f).length (ints .u8 (encF f))]) := by
  have hn := hf.n
  have hs : szF f = 10 + f.b.length + 4 * f.l.length := rfl
  refine enterF Try.func29 rfl Try.ntmps29 rfl hw ?_
  refine WC.seq ?_
  refine WC.region ?_
  refine WL.to (To.box (cs := f.cells) rfl rfl) rfl ?_ -- t1
  intro b1
  refine WL.y (Yl.assign rfl) rfl ?_ -- t2
  refine WL.y (Yl.assign rfl) rfl ?_ -- t3
  refine WL.nil ?_
  refine WC.seq ?_
  refine WC.seq ?_
  refine WC.region ?_
  refine WL.y (Yl.field fo54_0 rfl) rfl ?_ -- t6
  refine WL.y (Yl.load on5 rfl (by repeat (first | exact Take1.head | apply Take1.tail)) (by rfl)) rfl ?_ -- t7
  refine WL.nil ?_
  refine WC.block ?_
  refine WC.seq ?_
  refine WC.region ?_
  refine WL.y (Yl.eql rfl rfl) rfl ?_ -- t9
  refine WL.y (Yl.assign rfl) rfl ?_ -- t8
  refine WL.nil ?_
  refine WC.condD rfl (fun g8 => ?_) (fun g8 => ?_)
  · refine WC.seq ?_
    refine WC.region ?_
    refine WL.y (Yl.field fo54_1 rfl) rfl ?_ -- t10
    refine WL.y (Yl.load on51 rfl (by repeat (first | exact Take1.head | apply Take1.tail)) (by rfl)) rfl ?_ -- t11
    refine WL.y (Yl.rem rfl rfl (by omega) (r := f.n % 256) (by rw [Int.tmod_eq_emod_of_nonneg hn.1])) rfl ?_
    refine WL.callC (xs := [.tmp 12, _]) (cap := []) rfl rfl en45 (by repeat (first | exact TakeL.nil | (apply TakeL.cons; · repeat (first | exact Take1.head | apply Take1.tail)))) (fun w hw => rnumber8_any (f.n % 256) 1 ⟨by omega, by omega⟩ (by omega) w hw.left.here) rfl ?_ -- t13 hailer/hailerref08.number
    intro b13 _
    refine WL.y (Yl.assign rfl) rfl ?_ -- t2
    refine WL.y (Yl.assign rfl) rfl ?_ -- t3
    refine WL.nil ?_
    refine WC.ret ?_
    repeat (first | (with_reducible refine peelT ?_) | (with_reducible refine peelB ?_) | (with_reducible refine peelTX ?_) | (with_reducible refine peelBX ?_) | (with_reducible refine peelBN ?_) | (with_reducible refine peelBO rfl ?_))
    have e : encF f = be (f.n % 256) 1 := by rw [be_1]; simp only [encF, *, if_true]; rw [Int.emod_emod_of_dvd _ (by decide)]
    have eo : okF f = true := by simp [okF, *]
    rw [e, eo, be_len]
    exact ret2 (.inr rfl) Try.results29 rfl rfl fun w' h => ⟨(some ⟨b13, 0, none⟩, 1), (fun h => by omega), rfl, by rw [if_neg (by omega)]; exact h.sub (by repeat (first | exact TakeL.nil | (apply TakeL.cons; · repeat (first | exact Take1.head | apply Take1.tail))))⟩
  · refine WC.seq ?_
    refine WC.region ?_
    refine WL.y (Yl.eql rfl rfl) rfl ?_ -- t15
    refine WL.y (Yl.assign rfl) rfl ?_ -- t14
    refine WL.nil ?_
    refine WC.condD rfl (fun g14 => ?_) (fun g14 => ?_)
    · refine WC.seq ?_
      refine WC.region ?_
      refine WL.y (Yl.field fo54_1 rfl) rfl ?_ -- t16
      refine WL.y (Yl.load on51 rfl (by repeat (first | exact Take1.head | apply Take1.tail)) (by rfl)) rfl ?_ -- t17
      refine WL.y (Yl.rem rfl rfl (by omega) (r := f.n % 4294967296) (by rw [Int.tmod_eq_emod_of_nonneg hn.1])) rfl ?_
      refine WL.callC (xs := [.tmp 18, _]) (cap := []) rfl rfl en45 (by repeat (first | exact TakeL.nil | (apply TakeL.cons; · repeat (first | exact Take1.head | apply Take1.tail)))) (fun w hw => rnumber8_any (f.n % 4294967296) 4 ⟨by omega, by omega⟩ (by omega) w hw.left.here) rfl ?_ -- t19 hailer/hailerref08.number
      intro b19 _
      refine WL.y (Yl.assign rfl) rfl ?_ -- t2
      refine WL.y (Yl.assign rfl) rfl ?_ -- t3
      refine WL.nil ?_
      refine WC.ret ?_
      repeat (first | (with_reducible refine peelT ?_) | (with_reducible refine peelB ?_) | (with_reducible refine peelTX ?_) | (with_reducible refine peelBX ?_) | (with_reducible refine peelBN ?_) | (with_reducible refine peelBO rfl ?_))
      have e : encF f = be (f.n % 4294967296) 4 := by simp [encF, *]
      have eo : okF f = true := by simp [okF, *]
      rw [e, eo, be_len]
      exact ret2 (.inr rfl) Try.results29 rfl rfl fun w' h => ⟨(some ⟨b19, 0, none⟩, 4), (fun h => by omega), rfl, by rw [if_neg (by omega)]; exact h.sub (by repeat (first | exact TakeL.nil | (apply TakeL.cons; · repeat (first | exact Take1.head | apply Take1.tail))))⟩
    · refine WC.seq ?_
      refine WC.region ?_
      refine WL.y (Yl.eql rfl rfl) rfl ?_ -- t21
      refine WL.y (Yl.assign rfl) rfl ?_ -- t20
      refine WL.nil ?_
      refine WC.condD rfl (fun g20 => ?_) (fun g20 => ?_)
      · refine WC.seq ?_
        refine WC.region ?_
        refine WL.y (Yl.field fo54_1 rfl) rfl ?_ -- t22
        refine WL.y (Yl.load on51 rfl (by repeat (first | exact Take1.head | apply Take1.tail)) (by rfl)) rfl ?_ -- t23
        refine WL.callC (xs := [.tmp 23, _]) (cap := []) rfl rfl en45 (by repeat (first | exact TakeL.nil | (apply TakeL.cons; · repeat (first | exact Take1.head | apply Take1.tail)))) (fun w hw => rnumber8_any f.n 8 hn (by omega) w hw.left.here) rfl ?_ -- t24 hailer/hailerref08.number
        intro b24 _
        refine WL.y (Yl.assign rfl) rfl ?_ -- t2
        refine WL.y (Yl.assign rfl) rfl ?_ -- t3
        refine WL.nil ?_
        refine WC.ret ?_
        repeat (first | (with_reducible refine peelT ?_) | (with_reducible refine peelB ?_) | (with_reducible refine peelTX ?_) | (with_reducible refine peelBX ?_) | (with_reducible refine peelBN ?_) | (with_reducible refine peelBO rfl ?_))
        have e : encF f = be f.n 8 := by simp [encF, *]
        have eo : okF f = true := by simp [okF, *]
        rw [e, eo, be_len]
        exact ret2 (.inr rfl) Try.results29 rfl rfl fun w' h => ⟨(some ⟨b24, 0, none⟩, 8), (fun h => by omega), rfl, by rw [if_neg (by omega)]; exact h.sub (by repeat (first | exact TakeL.nil | (apply TakeL.cons; · repeat (first | exact Take1.head | apply Take1.tail))))⟩
      · refine WC.seq ?_
        refine WC.region ?_
        refine WL.y (Yl.eql rfl rfl) rfl ?_ -- t26
        refine WL.y (Yl.assign rfl) rfl ?_ -- t25
        refine WL.nil ?_
        refine WC.condD rfl (fun g25 => ?_) (fun g25 => ?_)
        · refine WC.seq ?_
          refine WC.seq ?_
          refine WC.region ?_
          refine WL.y (Yl.field fo54_1 rfl) rfl ?_ -- t27
          refine WL.y (Yl.load on51 rfl (by repeat (first | exact Take1.head | apply Take1.tail)) (by rfl)) rfl ?_ -- t28
          refine WL.y (Yl.neq rfl rfl) rfl ?_ -- t29
          refine WL.nil ?_
          refine WC.condD rfl (fun g29 => ?_) (fun g29 => ?_)
          · refine WC.seq ?_
            refine WC.region ?_
            refine WL.to (To.buildSlice (vs := [.int .u8 1]) un28 zs5 rfl rfl (by simp [Value.cells]) (by decide) (by decide)) rfl ?_ -- t30
            intro b30
            refine WL.view (fun w h => h.blkOwn (b := b30) (size := 1) (n := 1) (by repeat (first | exact Take1.head | apply Take1.tail)) (by unfold maxLen; omega) rfl) ?_
            refine WL.y (Yl.assign rfl) rfl ?_ -- t2
            refine WL.y (Yl.assign rfl) rfl ?_ -- t3
            refine WL.nil ?_
            refine WC.ret ?_
            repeat (first | (with_reducible refine peelT ?_) | (with_reducible refine peelB ?_) | (with_reducible refine peelTX ?_) | (with_reducible refine peelBX ?_) | (with_reducible refine peelBN ?_) | (with_reducible refine peelBO rfl ?_))
            have e : encF f = [1] := by simp [encF, flagB, *]
            have eo : okF f = true := by simp [okF, *]
            rw [e, eo]
            exact ret2 (.inr rfl) Try.results29 rfl rfl fun w' h => ⟨(some ⟨b30, 0, none⟩, 1), (fun h => by omega), rfl, by rw [if_neg (by omega)]; exact h.sub (by repeat (first | exact TakeL.nil | (apply TakeL.cons; · repeat (first | exact Take1.head | apply Take1.tail))))⟩
          · refine WC.skip ?_
            refine WC.seq ?_
            refine WC.region ?_
            refine WL.to (To.buildSlice (vs := [.int .u8 0]) un28 zs5 rfl rfl (by simp [Value.cells]) (by decide) (by decide)) rfl ?_ -- t31
            intro b31
            refine WL.view (fun w h => h.blkOwn (b := b31) (size := 1) (n := 1) (by repeat (first | exact Take1.head | apply Take1.tail)) (by unfold maxLen; omega) rfl) ?_
            refine WL.y (Yl.assign rfl) rfl ?_ -- t2
            refine WL.y (Yl.assign rfl) rfl ?_ -- t3
            refine WL.nil ?_
            refine WC.ret ?_
            repeat (first | (with_reducible refine peelT ?_) | (with_reducible refine peelB ?_) | (with_reducible refine peelTX ?_) | (with_reducible refine peelBX ?_) | (with_reducible refine peelBN ?_) | (with_reducible refine peelBO rfl ?_))
            have e : encF f = [0] := by simp [encF, flagB, *]
            have eo : okF f = true := by simp [okF, *]
            rw [e, eo]
            exact ret2 (.inr rfl) Try.results29 rfl rfl fun w' h => ⟨(some ⟨b31, 0, none⟩, 1), (fun h => by omega), rfl, by rw [if_neg (by omega)]; exact h.sub (by repeat (first | exact TakeL.nil | (apply TakeL.cons; · repeat (first | exact Take1.head | apply Take1.tail))))⟩
        · refine WC.seq ?_
          refine WC.region ?_
          refine WL.y (Yl.eql rfl rfl) rfl ?_ -- t33
          refine WL.y (Yl.assign rfl) rfl ?_ -- t32
          refine WL.nil ?_
          refine WC.condD rfl (fun g32 => ?_) (fun g32 => ?_)
          · refine WC.seq ?_
            refine WC.region ?_
            refine WL.y (Yl.field fo54_2 rfl) rfl ?_ -- t34
            refine WL.y (Yl.load on28 rfl (by repeat (first | exact Take1.head | apply Take1.tail)) (by rfl)) rfl ?_ -- t35
            refine WL.y (Yl.assign rfl) rfl ?_ -- t2
            refine WL.y (Yl.assign rfl) rfl ?_ -- t3
            refine WL.nil ?_
            refine WC.ret ?_
            repeat (first | (with_reducible refine peelT ?_) | (with_reducible refine peelB ?_) | (with_reducible refine peelTX ?_) | (with_reducible refine peelBX ?_) | (with_reducible refine peelBN ?_) | (with_reducible refine peelBO rfl ?_))
            have e : encF f = f.b := by simp [encF, *]
            have eo : okF f = true := by simp [okF, *]
            rw [e, eo]
            exact ret2 (.inr rfl) Try.results29 rfl rfl fun w' h => ⟨(f.ba, f.bc), (fun _ => rfl), rfl, by rw [if_pos (by omega)]; exact h.sub (by repeat (first | exact TakeL.nil | (apply TakeL.cons; · repeat (first | exact Take1.head | apply Take1.tail))))⟩
          · refine WC.seq ?_
            refine WC.region ?_
            refine WL.y (Yl.eql rfl rfl) rfl ?_ -- t37
            refine WL.y (Yl.assign rfl) rfl ?_ -- t36
            refine WL.nil ?_
            refine WC.condD rfl (fun g36 => ?_) (fun g36 => ?_)
            · refine WC.seq ?_
              refine WC.drawAny (Hs := [blkR b1 54 f.cells]) mixed (by kernel_rfl) ⟨_, (by repeat (first | exact TakeL.nil | (apply TakeL.cons; · repeat (first | exact Take1.head | apply Take1.tail))))⟩ ?_
              refine WD.take 0 rfl (by kernel_rfl) (by kernel_rfl) (by kernel_rfl) rfl rfl (Yl.field fo54_2 rfl) rfl ?_ -- t38
              refine WD.take 1 rfl (by kernel_rfl) (by kernel_rfl) (by kernel_rfl) rfl rfl (Yl.load on28 rfl (by repeat (first | exact Take1.head | apply Take1.tail)) (by rfl)) rfl ?_ -- t39
              refine WD.take 2 rfl (by kernel_rfl) (by kernel_rfl) (by kernel_rfl) rfl rfl (Yl.len un28 rfl) rfl ?_ -- t40
              refine WD.take 3 rfl (by kernel_rfl) (by kernel_rfl) (by kernel_rfl) rfl rfl (Yl.conv un3 un51 rfl (u64_in _ (by omega))) rfl ?_ -- t41
              refine WD.take 5 rfl (by kernel_rfl) (by kernel_rfl) (by kernel_rfl) rfl rfl (Yl.field fo54_2 rfl) rfl ?_ -- t43
              refine WD.take 6 rfl (by kernel_rfl) (by kernel_rfl) (by kernel_rfl) rfl rfl (Yl.load on28 rfl (by repeat (first | exact Take1.head | apply Take1.tail)) (by rfl)) rfl ?_ -- t44
              refine WD.take 8 rfl (by kernel_rfl) (by kernel_rfl) (by kernel_rfl) rfl rfl (Yl.field fo54_2 rfl) rfl ?_ -- t46
              refine WD.take 9 rfl (by kernel_rfl) (by kernel_rfl) (by kernel_rfl) rfl rfl (Yl.load on28 rfl (by repeat (first | exact Take1.head | apply Take1.tail)) (by rfl)) rfl ?_ -- t47
              refine WD.take 10 rfl (by kernel_rfl) (by kernel_rfl) (by kernel_rfl) rfl rfl (Yl.len un28 rfl) rfl ?_ -- t48
              refine WD.take 11 rfl (by kernel_rfl) (by kernel_rfl) (by kernel_rfl) rfl rfl (Yl.field fo54_4 rfl) rfl ?_ -- t49
              refine WD.take 12 rfl (by kernel_rfl) (by kernel_rfl) (by kernel_rfl) rfl rfl (Yl.load on3 rfl (by repeat (first | exact Take1.head | apply Take1.tail)) (by rfl)) rfl ?_ -- t50
              refine WD.take 13 rfl (by kernel_rfl) (by kernel_rfl) (by kernel_rfl) rfl rfl (Yl.leq rfl rfl) rfl ?_ -- t51
              refine WD.one 4 (by kernel_rfl) ?_
              refine WO.callC (xs := [.tmp 41, _]) (cap := []) rfl .no rfl rfl en45 (by repeat (first | exact TakeL.nil | (apply TakeL.cons; · repeat (first | exact Take1.head | apply Take1.tail)))) (fun w hw => rnumber8_any f.b.length 2 ⟨by omega, by omega⟩ (by omega) w hw.left.here) rfl (fun _ => ⟨_, (by repeat (first | exact TakeL.nil | (apply TakeL.cons; · repeat (first | exact Take1.head | apply Take1.tail))))⟩) ?_ -- t42 hailer/hailerref08.number
              intro b42 _
              refine WD.one 7 (by kernel_rfl) ?_
              refine WO.to rfl rfl .no (To.append sl28 rfl rfl (by repeat (first | exact Take1.head | apply Take1.tail)) (Reads.s hx) (ints_one _ _) rfl (ints_append _ _ _) (by unfold maxLen; omega) (by omega)) rfl (fun _ => ⟨_, (by repeat (first | exact TakeL.nil | (apply TakeL.cons; · repeat (first | exact Take1.head | apply Take1.tail))))⟩) ?_ -- t45
              rintro ⟨⟨ao45, c45⟩, hc45⟩
              dsimp only at hc45 ⊢
              refine WD.take 14 rfl (by kernel_rfl) (by kernel_rfl) (by kernel_rfl) rfl rfl (Yl.move rfl) rfl ?_ -- t52
              refine WD.both (t := 52) rfl (fun g52 => ?_) (fun g52 => ?_)
              · refine WD.takeOn 15 rfl (by kernel_rfl) (by kernel_rfl) (by kernel_rfl) rfl rfl rfl rfl (Yl.field fo54_2 rfl) rfl ?_ -- t53
                refine WD.takeOn 16 rfl (by kernel_rfl) (by kernel_rfl) (by kernel_rfl) rfl rfl rfl rfl (Yl.load on28 rfl (by repeat (first | exact Take1.head | apply Take1.tail)) (by rfl)) rfl ?_ -- t54
                refine WD.takeOn 17 rfl (by kernel_rfl) (by kernel_rfl) (by kernel_rfl) rfl rfl rfl rfl (Yl.len un28 rfl) rfl ?_ -- t55
                refine WD.takeOn 18 rfl (by kernel_rfl) (by kernel_rfl) (by kernel_rfl) rfl rfl rfl rfl (Yl.lss rfl rfl) rfl ?_ -- t56
                refine WD.take 19 rfl (by kernel_rfl) (by kernel_rfl) (by kernel_rfl) rfl rfl (Yl.pickT rfl rfl) rfl ?_ -- t57
                refine WD.take 20 rfl (by kernel_rfl) (by kernel_rfl) (by kernel_rfl) rfl rfl (Yl.assign rfl) rfl ?_ -- t2
                refine WD.take 21 rfl (by kernel_rfl) (by kernel_rfl) (by kernel_rfl) rfl rfl (Yl.assign rfl) rfl ?_ -- t3
                refine WD.done (by kernel_rfl) ?_
                refine WC.ret ?_
                repeat (first | (with_reducible refine peelT ?_) | (with_reducible refine peelB ?_) | (with_reducible refine peelTX ?_) | (with_reducible refine peelBX ?_) | (with_reducible refine peelBN ?_) | (with_reducible refine peelBO rfl ?_))
                have e : encF f = be f.b.length 2 ++ f.b := by simp [encF, *]
                have el : (encF f).length = 2 + f.b.length := by rw [e, List.length_append, be_len]
                have eo : okF f = (decide ((f.b.length : Int) ≤ f.most) && decide ((f.b.length : Int) < 65536)) := by simp [okF, *]
                rw [el, e, eo]
                exact ret2 (.inr rfl) Try.results29 rfl rfl fun w' h => ⟨(ao45, c45), (fun h => by omega), by simp [*], by rw [if_neg (by omega)]; exact h.sub (by repeat (first | exact TakeL.nil | (apply TakeL.cons; · repeat (first | exact Take1.head | apply Take1.tail))))⟩
              · refine WD.takeOff 15 rfl (by kernel_rfl) (by kernel_rfl) (by kernel_rfl) rfl rfl rfl rfl rfl rfl ?_ -- t53
                refine WD.takeOff 16 rfl (by kernel_rfl) (by kernel_rfl) (by kernel_rfl) rfl rfl rfl rfl rfl rfl ?_ -- t54
                refine WD.takeOff 17 rfl (by kernel_rfl) (by kernel_rfl) (by kernel_rfl) rfl rfl rfl rfl rfl rfl ?_ -- t55
                refine WD.takeOff 18 rfl (by kernel_rfl) (by kernel_rfl) (by kernel_rfl) rfl rfl rfl rfl rfl rfl ?_ -- t56
                refine WD.take 19 rfl (by kernel_rfl) (by kernel_rfl) (by kernel_rfl) rfl rfl (Yl.pickF rfl rfl) rfl ?_ -- t57
                refine WD.take 20 rfl (by kernel_rfl) (by kernel_rfl) (by kernel_rfl) rfl rfl (Yl.assign rfl) rfl ?_ -- t2
                refine WD.take 21 rfl (by kernel_rfl) (by kernel_rfl) (by kernel_rfl) rfl rfl (Yl.assign rfl) rfl ?_ -- t3
                refine WD.done (by kernel_rfl) ?_
                refine WC.ret ?_
                repeat (first | (with_reducible refine peelT ?_) | (with_reducible refine peelB ?_) | (with_reducible refine peelTX ?_) | (with_reducible refine peelBX ?_) | (with_reducible refine peelBN ?_) | (with_reducible refine peelBO rfl ?_))
                have e : encF f = be f.b.length 2 ++ f.b := by simp [encF, *]
                have el : (encF f).length = 2 + f.b.length := by rw [e, List.length_append, be_len]
                have eo : okF f = (decide ((f.b.length : Int) ≤ f.most) && decide ((f.b.length : Int) < 65536)) := by simp [okF, *]
                rw [el, e, eo]
                exact ret2 (.inr rfl) Try.results29 rfl rfl fun w' h => ⟨(ao45, c45), (fun h => by omega), by simp [*], by rw [if_neg (by omega)]; exact h.sub (by repeat (first | exact TakeL.nil | (apply TakeL.cons; · repeat (first | exact Take1.head | apply Take1.tail))))⟩
            · refine WC.seq ?_
              refine WC.region ?_
              refine WL.y (Yl.eql rfl rfl) rfl ?_ -- t59
              refine WL.y (Yl.assign rfl) rfl ?_ -- t58
              refine WL.nil ?_
              refine WC.condD rfl (fun g58 => ?_) (fun g58 => ?_)
              · refine WC.seq ?_
                refine WC.region ?_
                refine WL.y (Yl.field fo54_3 rfl) rfl ?_ -- t60
                refine WL.y (Yl.load on52 rfl (by repeat (first | exact Take1.head | apply Take1.tail)) (by rfl)) rfl ?_ -- t61
                refine WL.y (Yl.len un52 rfl) rfl ?_ -- t62
                refine WL.y (Yl.conv un3 un51 rfl (u64_in _ (by omega))) rfl ?_ -- t63
                refine WL.callC (xs := [.tmp 63, _]) (cap := []) rfl rfl en45 (by repeat (first | exact TakeL.nil | (apply TakeL.cons; · repeat (first | exact Take1.head | apply Take1.tail)))) (fun w hw => rnumber8_any f.l.length 2 ⟨by omega, by omega⟩ (by omega) w hw.left.here) rfl ?_ -- t64 hailer/hailerref08.number
                intro b64 _
                refine WL.y (Yl.assign rfl) rfl ?_ -- t4
                refine WL.nil ?_
                refine WC.seq ?_
                refine WC.seq ?_
                refine WC.region ?_
                refine WL.y (Yl.assign rfl) rfl ?_ -- t5
                refine WL.nil ?_
                refine WC.block ?_
                refine WC.loop (α := Nat × (Option Addr × Nat)) (fun p => [(1, .pointer (some ⟨b1, 0, none⟩)), (4, .slice p.2.1 (2 + 4 * p.1) p.2.2), (5, .int .i64 (p.1 : Int))]) (fun p => [ownR (.slice p.2.1 (2 + 4 * p.1) p.2.2) 5 1 (2 + 4 * p.1) (ints .u8 (be f.l.length 2 ++ ((b4 f.l).take p.1).flatten)), blkR b1 54 f.cells]) (fun p => p.1 ≤ f.l.length) (fun p => f.l.length - p.1) (0, (some ⟨b64, 0, none⟩, 2)) (Nat.zero_le _) ⟨(by repeat (first | exact Sub.nil | refine Sub.cons rfl ?_)), _, (by simp only [List.take_zero, List.flatten_nil, List.append_nil]; exact (by repeat (first | exact TakeL.nil | (apply TakeL.cons; · repeat (first | exact Take1.head | apply Take1.tail)))))⟩ ?_
                rintro ⟨j, ao, cc⟩ hj
                dsimp only at hj ⊢
                refine WC.seq ?_
                refine WC.seq ?_
                refine WC.region ?_
                refine WL.y (Yl.move rfl) rfl ?_ -- t65
                refine WL.y (Yl.field fo54_3 rfl) rfl ?_ -- t66
                refine WL.y (Yl.load on52 rfl (by repeat (first | exact Take1.head | apply Take1.tail)) (by rfl)) rfl ?_ -- t67
                refine WL.y (Yl.len un52 rfl) rfl ?_ -- t68
                refine WL.y (Yl.lss rfl rfl) rfl ?_ -- t69
                refine WL.nil ?_
                refine WC.condD rfl (fun g69 => ?_) (fun g69 => ?_)
                · refine WC.skip ?_
                  refine WC.seq ?_
                  refine WC.block ?_
                  refine WC.region ?_
                  refine WL.y (Yl.move rfl) rfl ?_ -- t72
                  refine WL.y (Yl.field fo54_3 rfl) rfl ?_ -- t73
                  refine WL.y (Yl.load on52 rfl (by repeat (first | exact Take1.head | apply Take1.tail)) (by rfl)) rfl ?_ -- t74
                  refine WL.y (Yl.move rfl) rfl ?_ -- t75
                  have hjl : j < f.l.length := by omega
                  have hn2 := hf.l _ (List.mem_of_getElem? (getD_of hjl))
                  have hb : (b4 f.l)[j]? = some (be (f.l.getD j 0) 4) := by simp [b4, hjl]
                  refine WL.y (Yl.index un52 sz49 rfl rfl (Reads.s hl) rfl (by omega)) rfl ?_ -- t76
                  refine WL.y (Yl.loadE on49 rfl (Reads.s hl) (ints_get .u32 f.l j (by omega))) rfl ?_ -- t77
                  refine WL.y (Yl.conv un49 un51 rfl (u64_in _ (by omega))) rfl ?_ -- t78
                  refine WL.callC (xs := [.tmp 78, _]) (cap := []) rfl rfl en45 (by repeat (first | exact TakeL.nil | (apply TakeL.cons; · repeat (first | exact Take1.head | apply Take1.tail)))) (fun w hw => rnumber8_any (f.l.getD j 0) 4 ⟨hn2.1, by omega⟩ (by omega) w hw.left.here) rfl ?_ -- t79 hailer/hailerref08.number
                  intro b79 _
                  refine WL.to (To.append sl28 rfl rfl (by repeat (first | exact Take1.head | apply Take1.tail)) (Reads.own (by repeat (first | exact Take1.head | apply Take1.tail))) (ints_one _ _) (show 2 + 4 * j + 4 = 2 + 4 * (j + 1) by omega) (show _ = ints .u8 (be f.l.length 2 ++ ((b4 f.l).take (j + 1)).flatten) by rw [ints_append, ← take_snoc _ _ _ hb, List.flatten_append, List.append_assoc]; simp) (by unfold maxLen; omega) (by omega)) rfl ?_ -- t80
                  rintro ⟨⟨ao80, c80⟩, hc80⟩
                  dsimp only at hc80 ⊢
                  refine WL.y (Yl.assign rfl) rfl ?_ -- t4
                  refine WL.nil ?_
                  refine WC.region ?_
                  refine WL.y (Yl.move rfl) rfl ?_ -- t70
                  refine WL.y (Yl.add rfl rfl (IntWalk.i64_in _ (by omega))) rfl ?_ -- t71
                  refine WL.y (Yl.assign rfl) rfl ?_ -- t5
                  refine WL.nil ?_
                  exact ⟨rfl, (j + 1, ao80, c80), by dsimp only; omega, by dsimp only; omega, (by repeat (first | exact Sub.nil | refine Sub.cons rfl ?_)), _, (by repeat (first | exact TakeL.nil | (apply TakeL.cons; · repeat (first | exact Take1.head | apply Take1.tail))))⟩
                · refine WC.exit ?_
                  refine WC.seq ?_
                  refine WC.drawRead mixed (by kernel_rfl) ?_
                  refine WH.y (Yl.move rfl) rfl ?_ -- t81
                  refine WH.y (Yl.field fo54_3 rfl) rfl ?_ -- t82
                  refine WH.y (Yl.load on52 rfl (by repeat (first | exact Take1.head | apply Take1.tail)) (by rfl)) rfl ?_ -- t83
                  refine WH.y (Yl.len un52 rfl) rfl ?_ -- t84
                  refine WH.y (Yl.field fo54_4 rfl) rfl ?_ -- t85
                  refine WH.y (Yl.load on3 rfl (by repeat (first | exact Take1.head | apply Take1.tail)) (by rfl)) rfl ?_ -- t86
                  refine WH.y (Yl.leq rfl rfl) rfl ?_ -- t87
                  refine WH.y (Yl.move rfl) rfl ?_ -- t88
                  refine WH.both (t := 88) rfl (fun g88 => ?_) (fun g88 => ?_)
                  · refine WH.on rfl rfl ?_
                    refine WH.y (Yl.field fo54_3 rfl) rfl ?_ -- t89
                    refine WH.on rfl rfl ?_
                    refine WH.y (Yl.load on52 rfl (by repeat (first | exact Take1.head | apply Take1.tail)) (by rfl)) rfl ?_ -- t90
                    refine WH.on rfl rfl ?_
                    refine WH.y (Yl.len un52 rfl) rfl ?_ -- t91
                    refine WH.on rfl rfl ?_
                    refine WH.y (Yl.lss rfl rfl) rfl ?_ -- t92
                    refine WH.y (Yl.pickT rfl rfl) rfl ?_ -- t93
                    refine WH.y (Yl.assign rfl) rfl ?_ -- t2
                    refine WH.y (Yl.assign rfl) rfl ?_ -- t3
                    refine WH.nil ?_
                    refine WC.ret ?_
                    repeat (first | (with_reducible refine peelT ?_) | (with_reducible refine peelB ?_) | (with_reducible refine peelTX ?_) | (with_reducible refine peelBX ?_) | (with_reducible refine peelBN ?_) | (with_reducible refine peelBO rfl ?_))
                    have hj2 : j = f.l.length := by omega
                    subst hj2
                    have e : encF f = be f.l.length 2 ++ (b4 f.l).flatten := by simp [encF, *]
                    have el : (encF f).length = 2 + 4 * f.l.length := by rw [e, List.length_append, be_len, flat_b4]
                    have eo : okF f = (decide ((f.l.length : Int) ≤ f.most) && decide ((f.l.length : Int) < 65536)) := by simp [okF, *]
                    rw [el, e, eo]
                    exact ret2 (.inr rfl) Try.results29 rfl rfl fun w' h => ⟨(ao, cc), (fun h => by omega), by simp [*], by rw [if_neg (by omega)]; rw [List.take_of_length_le (by simp [b4])] at h; exact h.sub (by repeat (first | exact TakeL.nil | (apply TakeL.cons; · repeat (first | exact Take1.head | apply Take1.tail))))⟩
                  · refine WH.off rfl rfl rfl rfl ?_ -- t89
                    refine WH.off rfl rfl rfl rfl ?_ -- t90
                    refine WH.off rfl rfl rfl rfl ?_ -- t91
                    refine WH.off rfl rfl rfl rfl ?_ -- t92
                    refine WH.y (Yl.pickF rfl rfl) rfl ?_ -- t93
                    refine WH.y (Yl.assign rfl) rfl ?_ -- t2
                    refine WH.y (Yl.assign rfl) rfl ?_ -- t3
                    refine WH.nil ?_
                    refine WC.ret ?_
                    repeat (first | (with_reducible refine peelT ?_) | (with_reducible refine peelB ?_) | (with_reducible refine peelTX ?_) | (with_reducible refine peelBX ?_) | (with_reducible refine peelBN ?_) | (with_reducible refine peelBO rfl ?_))
                    have hj2 : j = f.l.length := by omega
                    subst hj2
                    have e : encF f = be f.l.length 2 ++ (b4 f.l).flatten := by simp [encF, *]
                    have el : (encF f).length = 2 + 4 * f.l.length := by rw [e, List.length_append, be_len, flat_b4]
                    have eo : okF f = (decide ((f.l.length : Int) ≤ f.most) && decide ((f.l.length : Int) < 65536)) := by simp [okF, *]
                    rw [el, e, eo]
                    exact ret2 (.inr rfl) Try.results29 rfl rfl fun w' h => ⟨(ao, cc), (fun h => by omega), by simp [*], by rw [if_neg (by omega)]; rw [List.take_of_length_le (by simp [b4])] at h; exact h.sub (by repeat (first | exact TakeL.nil | (apply TakeL.cons; · repeat (first | exact Take1.head | apply Take1.tail))))⟩
              · refine WC.skip ?_
                refine WC.seq ?_
                refine WC.region ?_
                refine WL.y (Yl.assign rfl) rfl ?_ -- t2
                refine WL.y (Yl.assign rfl) rfl ?_ -- t3
                refine WL.nil ?_
                refine WC.ret ?_
                repeat (first | (with_reducible refine peelT ?_) | (with_reducible refine peelB ?_) | (with_reducible refine peelTX ?_) | (with_reducible refine peelBX ?_) | (with_reducible refine peelBN ?_) | (with_reducible refine peelBO rfl ?_))
                have e : encF f = [] := by simp [encF, *]
                have eo : okF f = true := by simp [okF, *]
                rw [e, eo]
                exact ret2 (.inr rfl) Try.results29 rfl rfl fun w' h => ⟨(none, 0), (fun h => by omega), rfl, by rw [if_neg (by omega)]; exact (h.addNil 5 1).sub (by repeat (first | exact TakeL.nil | (apply TakeL.cons; · repeat (first | exact Take1.head | apply Take1.tail))))⟩

def encs (fs : List Fd) : List Int := (fs.map encF).flatten
def okFs (fs : List Fd) : Bool := fs.all okF
theorem encF_len (f : Fd) : (encF f).length ≤ szF f := by
  unfold encF szF
  split
  · simp; omega
  split
  · rw [be_len]; omega
  split
  · rw [be_len]; omega
  split
  · rw [show (flagB (decide (f.n ≠ 0))).length = 1 from rfl]; omega
  split
  · omega
  split
  · rw [List.length_append, be_len]; omega
  split
  · rw [List.length_append, be_len, flat_b4]; omega
  · simp
theorem encs_len (fs : List Fd) : (encs fs).length ≤ szs fs := by
  induction fs with
  | nil => simp [encs, szs]
  | cons f fs ih =>
    have e : encs (f :: fs) = encF f ++ encs fs := rfl
    have e2 : szs (f :: fs) = szF f + szs fs := rfl
    have := encF_len f
    rw [e, e2, List.length_append]; omega
theorem encs_take {fs : List Fd} {i : Nat} {f : Fd} (h : fs[i]? = some f) : encs (fs.take (i + 1)) = encs (fs.take i) ++ encF f := by
  rw [← take_snoc _ _ _ h]; simp [encs]
theorem okFs_take {fs : List Fd} {i : Nat} {f : Fd} (h : fs[i]? = some f) : okFs (fs.take (i + 1)) = (okFs (fs.take i) && okF f) := by
  rw [← take_snoc _ _ _ h]; simp [okFs]
theorem okFs_no {fs : List Fd} {i : Nat} {f : Fd} (h : fs[i]? = some f) (hf : okF f = false) : okFs fs = false := by
  unfold okFs
  rw [List.all_eq_false]
  exact ⟨f, List.mem_of_getElem? h, by simp [hf]⟩

theorem rput_any (lim : Int) (fs : List Fd) (v : Value) (hok : ∀ f ∈ fs, f.ok) (hsz : szs fs ≤ 1000000) (w : World) (hx : FdS w (fpL []) v fs) (hw : OK w (fpL []) [] w) :
    Fn Try.prog 11 [.int .i64 lim, v] [] w (fun _ : Option Addr × Nat => True) (fun y => .tuple #[.slice y.1 (if okFs fs then encs fs else []).length y.2, .bool (okFs fs && decide (((encs fs).length : Int) ≤ lim))]) (fun y => [ownR (.slice y.1 (if okFs fs then encs fs else []).length y.2) 5 1 (if okFs fs then encs fs else []).length (ints .u8 (if okFs fs then encs fs else []))]) := by
  obtain ⟨al, cl, rfl, hcl, hml⟩ := hx.rows.rd.form
  unfold maxLen at hml
  refine enterF Try.func11 rfl Try.ntmps11 rfl hw ?_
  refine WC.seq ?_
  refine WC.region ?_
  refine WL.y (Yl.assign rfl) rfl ?_ -- t4
  refine WL.y (Yl.assign rfl) rfl ?_ -- t5
  refine WL.nil ?_
  refine WC.seq ?_
  refine WC.region ?_
  refine WL.y (Yl.assign rfl) rfl ?_ -- t6
  refine WL.nil ?_
  refine WC.seq ?_
  refine WC.seq ?_
  refine WC.region ?_
  refine WL.y (Yl.assign rfl) rfl ?_ -- t7
  refine WL.nil ?_
  refine WC.block ?_
  refine WC.view (fun w h => h.addNil 5 1) ?_
  refine WC.loop (α := Nat × (Option Addr × Nat)) (fun p => [(0, .int .i64 lim), (1, .slice al fs.length cl), (6, .slice p.2.1 (encs (fs.take p.1)).length p.2.2), (7, .int .i64 (p.1 : Int))]) (fun p => [ownR (.slice p.2.1 (encs (fs.take p.1)).length p.2.2) 5 1 (encs (fs.take p.1)).length (ints .u8 (encs (fs.take p.1)))]) (fun p => p.1 ≤ fs.length ∧ okFs (fs.take p.1) = true) (fun p => fs.length - p.1) (0, none, 0) ⟨Nat.zero_le _, rfl⟩ ⟨(by repeat (first | exact Sub.nil | refine Sub.cons rfl ?_)), _, (by repeat (first | exact TakeL.nil | (apply TakeL.cons; · repeat (first | exact Take1.head | apply Take1.tail))))⟩ ?_
  rintro ⟨j, ao, cc⟩ ⟨hj, hjo⟩
  dsimp only at hj hjo ⊢
  refine WC.seq ?_
  refine WC.seq ?_
  refine WC.region ?_
  refine WL.y (Yl.move rfl) rfl ?_ -- t10
  refine WL.y (Yl.move rfl) rfl ?_ -- t11
  refine WL.y (Yl.len un22 rfl) rfl ?_ -- t12
  refine WL.y (Yl.lss rfl rfl) rfl ?_ -- t13
  refine WL.nil ?_
  refine WC.condD rfl (fun g13 => ?_) (fun g13 => ?_)
  · refine WC.skip ?_
    refine WC.seq ?_
    refine WC.block ?_
    refine WC.seq ?_
    refine WC.region ?_
    refine WL.y (Yl.move rfl) rfl ?_ -- t17
    refine WL.y (Yl.move rfl) rfl ?_ -- t18
    obtain ⟨f, hfj⟩ : ∃ f, fs[j]? = some f := ⟨_, List.getElem?_eq_getElem (by omega)⟩
    have hfm := List.mem_of_getElem? hfj
    have hfo := hok f hfm
    have hq := szs_take hfj
    have hq2 := encs_len (fs.take j)
    have hq3 := encF_len f
    have hsf : szF f = 10 + f.b.length + 4 * f.l.length := rfl
    have hq4 := encs_take hfj
    have hq5 := okFs_take hfj
    rw [hjo, Bool.true_and] at hq5
    refine WL.y (Yl.index un22 sz54 rfl rfl (Reads.s hx.rows) rfl (by omega)) rfl ?_ -- t19
    refine WL.y (Yl.loadV (j := j) (u := f) fdV fdAll rfl (Reads.s hx.rows) rfl hfj) rfl ?_
    refine WL.callC (xs := [.tmp 20]) (cap := []) rfl rfl en29 (by repeat (first | exact TakeL.nil | (apply TakeL.cons; · repeat (first | exact Take1.head | apply Take1.tail)))) (fun w hw => rone_any f hfo (by omega) w (hw.srcS (hx.b f hfm)) (hw.srcS (hx.l f hfm)) hw.left.here) rfl ?_ -- t21 hailer/hailerref08.one
    rintro ⟨ao2, c2⟩ hy
    dsimp only at hy ⊢
    refine WL.y (Yl.move rfl) rfl ?_ -- t16
    refine WL.y (Yl.extract rfl rfl) rfl ?_ -- t22
    refine WL.y (Yl.extract rfl rfl) rfl ?_ -- t23
    refine WL.y (Yl.assign rfl) rfl ?_ -- t8
    refine WL.y (Yl.assign rfl) rfl ?_ -- t9
    refine WL.nil ?_
    refine WC.seq ?_
    refine WC.seq ?_
    refine WC.region ?_
    refine WL.y (Yl.move rfl) rfl ?_ -- t24
    refine WL.y (Yl.not rfl) rfl ?_ -- t25
    refine WL.nil ?_
    refine WC.cond rfl (fun g25 => ?_) (fun g25 => ?_)
    · refine WC.seq ?_
      refine WC.region ?_
      refine WL.y (Yl.assign rfl) rfl ?_ -- t4
      refine WL.y (Yl.assign rfl) rfl ?_ -- t5
      refine WL.nil ?_
      refine WC.ret ?_
      repeat (first | (with_reducible refine peelT ?_) | (with_reducible refine peelB ?_) | (with_reducible refine peelTX ?_) | (with_reducible refine peelBX ?_) | (with_reducible refine peelBN ?_) | (with_reducible refine peelBO rfl ?_))
      have hno := okFs_no hfj (notT g25)
      rw [hno]
      exact ret2 (.inr rfl) Try.results11 rfl rfl fun w' h => ⟨(none, 0), trivial, rfl, (h.addNil 5 1).sub (by repeat (first | exact TakeL.nil | (apply TakeL.cons; · repeat (first | exact Take1.head | apply Take1.tail))))⟩
    · refine WC.skip ?_
      refine WC.region ?_
      refine WL.y (Yl.move rfl) rfl ?_ -- t26
      refine WL.y (Yl.move rfl) rfl ?_ -- t27
      by_cases hk : f.kind = 4
      · obtain ⟨rfl, rfl⟩ := Prod.mk.inj (hy hk)
        have eb : encF f = f.b := by simp [encF, hk]
        rw [if_pos hk]
        rw [eb] at hq4 ⊢
        refine WL.to (To.append sl28 rfl rfl (by repeat (first | exact Take1.head | apply Take1.tail)) (Reads.s (hx.b f hfm)) (ints_one _ _) (N := (encs (fs.take (j + 1))).length) (by rw [hq4, List.length_append]) (zs := ints .u8 (encs (fs.take (j + 1)))) (by rw [hq4, ints_append]) (by have := szs_take hfj; rw [hq4, List.length_append]; unfold maxLen; omega) (by rw [hq4, List.length_append]; omega)) rfl ?_ -- t28
        rintro ⟨⟨ao28, c28⟩, hc28⟩
        dsimp only at hc28 ⊢
        refine WL.y (Yl.assign rfl) rfl ?_ -- t6
        refine WL.nil ?_
        refine WC.region ?_
        refine WL.y (Yl.move rfl) rfl ?_
        refine WL.y (Yl.add rfl rfl (IntWalk.i64_in _ (by omega))) rfl ?_
        refine WL.y (Yl.assign rfl) rfl ?_
        refine WL.nil ?_
        repeat (first | (with_reducible refine peelT ?_) | (with_reducible refine peelB ?_) | (with_reducible refine peelTX ?_) | (with_reducible refine peelBX ?_) | (with_reducible refine peelBN ?_) | (with_reducible refine peelBO rfl ?_))
        exact ⟨rfl, (j + 1, ao28, c28), ⟨by dsimp only; omega, by dsimp only; rw [hq5]; exact notF g25⟩, by dsimp only; omega, (by repeat (first | exact Sub.nil | refine Sub.cons rfl ?_)), _, (by repeat (first | exact TakeL.nil | (apply TakeL.cons; · repeat (first | exact Take1.head | apply Take1.tail))))⟩
      rw [if_neg hk]
      refine WL.to (To.append sl28 rfl rfl (by repeat (first | exact Take1.head | apply Take1.tail)) (Reads.of (r := ownR (.slice ao2 (encF f).length c2) 5 1 (encF f).length (ints .u8 (encF f))) RdOf.own (by repeat (first | exact Take1.head | apply Take1.tail))) (ints_one _ _) (N := (encs (fs.take (j + 1))).length) (by rw [hq4, List.length_append]) (zs := ints .u8 (encs (fs.take (j + 1)))) (by rw [hq4, ints_append]) (by rw [hq4, List.length_append]; unfold maxLen; omega) (by rw [hq4, List.length_append]; omega)) rfl ?_ -- t28
      rintro ⟨⟨ao28, c28⟩, hc28⟩
      dsimp only at hc28 ⊢
      refine WL.y (Yl.assign rfl) rfl ?_ -- t6
      refine WL.nil ?_
      refine WC.region ?_
      refine WL.y (Yl.move rfl) rfl ?_ -- t14
      refine WL.y (Yl.add rfl rfl (IntWalk.i64_in _ (by omega))) rfl ?_ -- t15
      refine WL.y (Yl.assign rfl) rfl ?_ -- t7
      refine WL.nil ?_
      exact ⟨rfl, (j + 1, ao28, c28), ⟨by dsimp only; omega, by dsimp only; rw [hq5]; exact notF g25⟩, by dsimp only; omega, (by repeat (first | exact Sub.nil | refine Sub.cons rfl ?_)), _, (by repeat (first | exact TakeL.nil | (apply TakeL.cons; · repeat (first | exact Take1.head | apply Take1.tail))))⟩
  · refine WC.exit ?_
    refine WC.seq ?_
    refine WC.region ?_
    refine WL.y (Yl.move rfl) rfl ?_ -- t29
    refine WL.y (Yl.move rfl) rfl ?_ -- t30
    refine WL.y (Yl.len un28 rfl) rfl ?_ -- t31
    refine WL.y (Yl.move rfl) rfl ?_ -- t32
    refine WL.y (Yl.leq rfl rfl) rfl ?_ -- t33
    refine WL.y (Yl.assign rfl) rfl ?_ -- t4
    refine WL.y (Yl.assign rfl) rfl ?_ -- t5
    refine WL.nil ?_
    refine WC.ret ?_
    repeat (first | (with_reducible refine peelT ?_) | (with_reducible refine peelB ?_) | (with_reducible refine peelTX ?_) | (with_reducible refine peelBX ?_) | (with_reducible refine peelBN ?_) | (with_reducible refine peelBO rfl ?_))
    have hj2 : j = fs.length := by omega
    subst hj2
    rw [List.take_length] at hjo ⊢
    rw [hjo, if_pos rfl]
    exact ret2 (.inr rfl) Try.results11 rfl rfl fun w' h => ⟨(ao, cc), trivial, by simp, h.sub (by repeat (first | exact TakeL.nil | (apply TakeL.cons; · repeat (first | exact Take1.head | apply Take1.tail))))⟩
end Go.Proofs.Ytahkaepmfnmhcaa
