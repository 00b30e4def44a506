/- The law's fixed rows: the walk. -/
import Derived.Test.YtahkaepmfnmhcaaWireI
namespace Go.Proofs.Ytahkaepmfnmhcaa
open Go Go.RowKit

/-- Nothing is taken. -/
def zF (f : Fd) : Fd := Fd.mk f.kind 0 none 0 [] none 0 [] f.most
theorem ltake_nil (fs : List Fd) (v : Value) (hok : ∀ f ∈ fs, f.ok) (hfl : fs.length ≤ 100000) (w : World) (hx : FdS w (fpL []) v fs) (hw : OK w (fpL []) [] w) :
    Fn Try.prog 13 [.pointer none, v] [] w (fun _ : Option Addr × Nat => True) (fun y => .slice y.1 fs.length y.2) (fun y => [ownR (.slice y.1 fs.length y.2) 54 5 fs.length (vcs Fd.val (fs.map zF))]) := by
  obtain ⟨al, cl, rfl, hcl, hml⟩ := hx.rows.rd.form
  unfold maxLen at hml
  refine enterF Try.func13 rfl Try.ntmps13 rfl hw ?_
  refine WC.seq ?_
  refine WC.region ?_
  refine WL.y (Yl.assign rfl) rfl ?_ -- t4
  refine WL.nil ?_
  refine WC.seq ?_
  refine WC.region ?_
  refine WL.y (Yl.assign rfl) rfl ?_ -- t5
  refine WL.nil ?_
  refine WC.seq ?_
  refine WC.seq ?_
  refine WC.region ?_
  refine WL.y (Yl.move rfl) rfl ?_ -- t9
  refine WL.y (Yl.len un22 rfl) rfl ?_ -- t10
  refine WL.y (Yl.move rfl) rfl ?_ -- t11
  refine WL.nil ?_
  refine WC.block ?_
  refine WC.view (fun w h => h.addNil 54 5) ?_
  refine WC.loop (α := Nat × (Option Addr × Nat)) (fun p => [(0, .pointer none), (4, .slice none 0 0), (5, .slice p.2.1 p.1 p.2.2), (9, .slice al fs.length cl), (10, .int .i64 (fs.length : Int)), (11, .int .i64 (p.1 : Int))]) (fun p => [ownR (.slice p.2.1 p.1 p.2.2) 54 5 p.1 (vcs Fd.val ((fs.take p.1).map zF))]) (fun p => p.1 ≤ fs.length) (fun p => fs.length - p.1) (0, none, 0) (Nat.zero_le _) ⟨(by repeat (first | exact Sub.nil | refine Sub.cons rfl ?_)), _, (by repeat (first | exact TakeL.nil | (apply TakeL.cons; · repeat (first | exact Take1.head | apply Take1.tail))))⟩ ?_
  rintro ⟨j, ao2, co2⟩ hj
  dsimp only at hj ⊢
  refine WC.seq ?_
  refine WC.region ?_
  refine WL.y (Yl.lss rfl rfl) rfl ?_ -- t12
  refine WL.nil ?_
  refine WC.seq ?_
  refine WC.condD rfl (fun g12 => ?_) (fun g12 => ?_)
  · refine WC.skip ?_
    refine WC.seq ?_
    refine WC.block ?_
    refine WC.seq ?_
    refine WC.region ?_
    obtain ⟨f, hfj⟩ : ∃ f, fs[j]? = some f := ⟨_, List.getElem?_eq_getElem (by omega)⟩
    have hfm := List.mem_of_getElem? hfj
    have hfo := hok f hfm
    refine WL.y (Yl.index un22 sz54 rfl rfl (Reads.s hx.rows) rfl (by omega)) rfl ?_ -- t13
    refine WL.y (Yl.loadV (j := j) (u := f) fdV fdAll rfl (Reads.s hx.rows) rfl hfj) rfl ?_
    refine WL.to (To.alloc (cs := [.int .u8 0, .int .u64 0, .slice none 0 0, .slice none 0 0, .int .i64 0]) zr54 rfl) rfl ?_ -- t7
    intro b7
    refine WL.sto (Sto.agg sz54 rfl rfl (by repeat (first | exact Take1.head | apply Take1.tail)) f.ones rfl (by rfl) (by rfl)) (fun _ h => nomatch h) ?_ -- st 1
    refine WL.nil ?_
    refine WC.seq ?_
    refine WC.region ?_
    refine WL.y (Yl.field fo54_0 rfl) rfl ?_ -- t15
    refine WL.y (Yl.load on5 rfl (by repeat (first | exact Take1.head | apply Take1.tail)) (by rfl)) rfl ?_ -- t16
    refine WL.y (Yl.field fo54_4 rfl) rfl ?_ -- t17
    refine WL.y (Yl.load on3 rfl (by repeat (first | exact Take1.head | apply Take1.tail)) (by rfl)) rfl ?_ -- t18
    refine WL.y (Yl.build rfl (cs := (zF f).cells) (fun _ => by kernel_rfl)) rfl ?_ -- t19
    refine WL.to (To.alloc (cs := [.int .u8 0, .int .u64 0, .slice none 0 0, .slice none 0 0, .int .i64 0]) zr54 rfl) rfl ?_ -- t8
    intro b8
    refine WL.sto (Sto.agg (cs' := (zF f).cells) sz54 rfl rfl (by repeat (first | exact Take1.head | apply Take1.tail)) (Fd.ones _) rfl (by rfl) rfl) (fun _ h => nomatch h) ?_
    refine WL.nil ?_
    refine WC.seq ?_
    refine WC.seq ?_
    refine WC.region ?_
    refine WL.y (Yl.field fo54_0 rfl) rfl ?_ -- t20
    refine WL.y (Yl.load on5 rfl (by repeat (first | exact Take1.head | apply Take1.tail)) (by rfl)) rfl ?_ -- t21
    refine WL.nil ?_
    refine WC.block ?_
    refine WC.seq ?_
    refine WC.region ?_
    refine WL.y (Yl.eql rfl rfl) rfl ?_ -- t23
    refine WL.y (Yl.assign rfl) rfl ?_ -- t22
    refine WL.nil ?_
    refine WC.condD rfl (fun g22 => ?_) (fun g22 => ?_)
    · refine WC.region ?_
      refine WL.y (Yl.move rfl) rfl ?_ -- t24
      refine WL.callC (xs := [.tmp 24]) (cap := []) rfl rfl en30 (by repeat (first | exact TakeL.nil | (apply TakeL.cons; · repeat (first | exact Take1.head | apply Take1.tail)))) (fun w hw => inU8_nil w hw.left.here) rfl ?_ -- t25 (*hailer/wire.In).U8
      rintro ⟨⟩ -
      refine WL.y (Yl.conv un5 un51 rfl rfl) rfl ?_ -- t26
      refine WL.y (Yl.field fo54_1 rfl) rfl ?_ -- t27
      refine WL.sto (Sto.one (cs' := (zF f).cells) sz51 rfl rfl (by repeat (first | exact Take1.head | apply Take1.tail)) rfl (by rfl) rfl) (fun _ h => nomatch h) ?_
      refine WL.nil ?_
      refine WC.region ?_
      refine WL.y (Yl.move rfl) rfl ?_ -- t66
      refine WL.y (Yl.loadN ag54 rfl (by repeat (first | exact Take1.head | apply Take1.tail)) (by rfl) (show _ = (zF f).cells from rfl)) rfl ?_ -- t67
      refine WL.to (To.buildSlice (vs := [(zF f).val]) un22 zs54 rfl rfl (by intro v hv; rw [List.mem_singleton.1 hv]; rfl) (by decide) (by decide)) rfl ?_ -- t68
      intro b68
      refine WL.to (To.append sl22 rfl rfl (by repeat (first | exact Take1.head | apply Take1.tail)) (Reads.of (RdOf.blk (size := 5) (n := 1) (cs := flat [(zF f).val]) (cs' := (zF f).cells) (Nat.le_refl _) (by unfold maxLen; omega) (Nat.le_refl _) rfl) (by repeat (first | exact Take1.head | apply Take1.tail))) (zF f).ones rfl (show vcs Fd.val ((fs.take j).map zF) ++ (zF f).cells = vcs Fd.val ((fs.take (j + 1)).map zF) by rw [← take_snoc _ _ _ hfj, List.map_append, vcs_app]; congr 1) (by unfold maxLen; omega) (by omega)) rfl ?_ -- t69
      rintro ⟨⟨ao69, c69⟩, hc69⟩
      dsimp only at hc69 ⊢
      refine WL.y (Yl.assign rfl) rfl ?_ -- t5
      refine WL.nil ?_
      refine WC.region ?_
      refine WL.y (Yl.add rfl rfl (IntWalk.i64_in _ (by omega))) rfl ?_ -- t70
      refine WL.y (Yl.move rfl) rfl ?_ -- t11
      refine WL.nil ?_
      exact ⟨rfl, (j + 1, ao69, c69), by dsimp only; omega, by dsimp only; omega, (by repeat (first | exact Sub.nil | refine Sub.cons rfl ?_)), _, (by repeat (first | exact TakeL.nil | (apply TakeL.cons; · repeat (first | exact Take1.head | apply Take1.tail))))⟩
    · refine WC.seq ?_
      refine WC.region ?_
      refine WL.y (Yl.eql rfl rfl) rfl ?_ -- t29
      refine WL.y (Yl.assign rfl) rfl ?_ -- t28
      refine WL.nil ?_
      refine WC.condD rfl (fun g28 => ?_) (fun g28 => ?_)
      · refine WC.region ?_
        refine WL.y (Yl.move rfl) rfl ?_ -- t30
        refine WL.callC (xs := [.tmp 30]) (cap := []) rfl rfl en31 (by repeat (first | exact TakeL.nil | (apply TakeL.cons; · repeat (first | exact Take1.head | apply Take1.tail)))) (fun w hw => inU32_nil w hw.left.here) rfl ?_ -- t31 (*hailer/wire.In).U32
        rintro ⟨⟩ -
        refine WL.y (Yl.conv un49 un51 rfl rfl) rfl ?_ -- t32
        refine WL.y (Yl.field fo54_1 rfl) rfl ?_ -- t33
        refine WL.sto (Sto.one (cs' := (zF f).cells) sz51 rfl rfl (by repeat (first | exact Take1.head | apply Take1.tail)) rfl (by rfl) rfl) (fun _ h => nomatch h) ?_
        refine WL.nil ?_
        refine WC.region ?_
        refine WL.y (Yl.move rfl) rfl ?_ -- t66
        refine WL.y (Yl.loadN ag54 rfl (by repeat (first | exact Take1.head | apply Take1.tail)) (by rfl) (show _ = (zF f).cells from rfl)) rfl ?_ -- t67
        refine WL.to (To.buildSlice (vs := [(zF f).val]) un22 zs54 rfl rfl (by intro v hv; rw [List.mem_singleton.1 hv]; rfl) (by decide) (by decide)) rfl ?_ -- t68
        intro b68
        refine WL.to (To.append sl22 rfl rfl (by repeat (first | exact Take1.head | apply Take1.tail)) (Reads.of (RdOf.blk (size := 5) (n := 1) (cs := flat [(zF f).val]) (cs' := (zF f).cells) (Nat.le_refl _) (by unfold maxLen; omega) (Nat.le_refl _) rfl) (by repeat (first | exact Take1.head | apply Take1.tail))) (zF f).ones rfl (show vcs Fd.val ((fs.take j).map zF) ++ (zF f).cells = vcs Fd.val ((fs.take (j + 1)).map zF) by rw [← take_snoc _ _ _ hfj, List.map_append, vcs_app]; congr 1) (by unfold maxLen; omega) (by omega)) rfl ?_ -- t69
        rintro ⟨⟨ao69, c69⟩, hc69⟩
        dsimp only at hc69 ⊢
        refine WL.y (Yl.assign rfl) rfl ?_ -- t5
        refine WL.nil ?_
        refine WC.region ?_
        refine WL.y (Yl.add rfl rfl (IntWalk.i64_in _ (by omega))) rfl ?_ -- t70
        refine WL.y (Yl.move rfl) rfl ?_ -- t11
        refine WL.nil ?_
        exact ⟨rfl, (j + 1, ao69, c69), by dsimp only; omega, by dsimp only; omega, (by repeat (first | exact Sub.nil | refine Sub.cons rfl ?_)), _, (by repeat (first | exact TakeL.nil | (apply TakeL.cons; · repeat (first | exact Take1.head | apply Take1.tail))))⟩
      · refine WC.seq ?_
        refine WC.region ?_
        refine WL.y (Yl.eql rfl rfl) rfl ?_ -- t35
        refine WL.y (Yl.assign rfl) rfl ?_ -- t34
        refine WL.nil ?_
        refine WC.condD rfl (fun g34 => ?_) (fun g34 => ?_)
        · refine WC.region ?_
          refine WL.y (Yl.move rfl) rfl ?_ -- t36
          refine WL.callC (xs := [.tmp 36]) (cap := []) rfl rfl en32 (by repeat (first | exact TakeL.nil | (apply TakeL.cons; · repeat (first | exact Take1.head | apply Take1.tail)))) (fun w hw => inU64_nil w hw.left.here) rfl ?_ -- t37 (*hailer/wire.In).U64
          rintro ⟨⟩ -
          refine WL.y (Yl.field fo54_1 rfl) rfl ?_ -- t38
          refine WL.sto (Sto.one (cs' := (zF f).cells) sz51 rfl rfl (by repeat (first | exact Take1.head | apply Take1.tail)) rfl (by rfl) rfl) (fun _ h => nomatch h) ?_
          refine WL.nil ?_
          refine WC.region ?_
          refine WL.y (Yl.move rfl) rfl ?_ -- t66
          refine WL.y (Yl.loadN ag54 rfl (by repeat (first | exact Take1.head | apply Take1.tail)) (by rfl) (show _ = (zF f).cells from rfl)) rfl ?_ -- t67
          refine WL.to (To.buildSlice (vs := [(zF f).val]) un22 zs54 rfl rfl (by intro v hv; rw [List.mem_singleton.1 hv]; rfl) (by decide) (by decide)) rfl ?_ -- t68
          intro b68
          refine WL.to (To.append sl22 rfl rfl (by repeat (first | exact Take1.head | apply Take1.tail)) (Reads.of (RdOf.blk (size := 5) (n := 1) (cs := flat [(zF f).val]) (cs' := (zF f).cells) (Nat.le_refl _) (by unfold maxLen; omega) (Nat.le_refl _) rfl) (by repeat (first | exact Take1.head | apply Take1.tail))) (zF f).ones rfl (show vcs Fd.val ((fs.take j).map zF) ++ (zF f).cells = vcs Fd.val ((fs.take (j + 1)).map zF) by rw [← take_snoc _ _ _ hfj, List.map_append, vcs_app]; congr 1) (by unfold maxLen; omega) (by omega)) rfl ?_ -- t69
          rintro ⟨⟨ao69, c69⟩, hc69⟩
          dsimp only at hc69 ⊢
          refine WL.y (Yl.assign rfl) rfl ?_ -- t5
          refine WL.nil ?_
          refine WC.region ?_
          refine WL.y (Yl.add rfl rfl (IntWalk.i64_in _ (by omega))) rfl ?_ -- t70
          refine WL.y (Yl.move rfl) rfl ?_ -- t11
          refine WL.nil ?_
          exact ⟨rfl, (j + 1, ao69, c69), by dsimp only; omega, by dsimp only; omega, (by repeat (first | exact Sub.nil | refine Sub.cons rfl ?_)), _, (by repeat (first | exact TakeL.nil | (apply TakeL.cons; · repeat (first | exact Take1.head | apply Take1.tail))))⟩
        · refine WC.seq ?_
          refine WC.region ?_
          refine WL.y (Yl.eql rfl rfl) rfl ?_ -- t40
          refine WL.y (Yl.assign rfl) rfl ?_ -- t39
          refine WL.nil ?_
          refine WC.condD rfl (fun g39 => ?_) (fun g39 => ?_)
          · refine WC.seq ?_
            refine WC.region ?_
            refine WL.y (Yl.move rfl) rfl ?_ -- t41
            refine WL.callC (xs := [.tmp 41]) (cap := []) rfl rfl en21 (by repeat (first | exact TakeL.nil | (apply TakeL.cons; · repeat (first | exact Take1.head | apply Take1.tail)))) (fun w hw => inFlag_nil w hw.left.here) rfl ?_ -- t42 (*hailer/wire.In).Flag
            rintro ⟨⟩ -
            refine WL.nil ?_
            refine WC.condF rfl (by first | rfl | (simp; done) | (simp; omega)) ?_
            refine WC.skip ?_
            refine WC.region ?_
            refine WL.y (Yl.move rfl) rfl ?_ -- t66
            refine WL.y (Yl.loadN ag54 rfl (by repeat (first | exact Take1.head | apply Take1.tail)) (by rfl) (show _ = (zF f).cells from rfl)) rfl ?_ -- t67
            refine WL.to (To.buildSlice (vs := [(zF f).val]) un22 zs54 rfl rfl (by intro v hv; rw [List.mem_singleton.1 hv]; rfl) (by decide) (by decide)) rfl ?_ -- t68
            intro b68
            refine WL.to (To.append sl22 rfl rfl (by repeat (first | exact Take1.head | apply Take1.tail)) (Reads.of (RdOf.blk (size := 5) (n := 1) (cs := flat [(zF f).val]) (cs' := (zF f).cells) (Nat.le_refl _) (by unfold maxLen; omega) (Nat.le_refl _) rfl) (by repeat (first | exact Take1.head | apply Take1.tail))) (zF f).ones rfl (show vcs Fd.val ((fs.take j).map zF) ++ (zF f).cells = vcs Fd.val ((fs.take (j + 1)).map zF) by rw [← take_snoc _ _ _ hfj, List.map_append, vcs_app]; congr 1) (by unfold maxLen; omega) (by omega)) rfl ?_ -- t69
            rintro ⟨⟨ao69, c69⟩, hc69⟩
            dsimp only at hc69 ⊢
            refine WL.y (Yl.assign rfl) rfl ?_ -- t5
            refine WL.nil ?_
            refine WC.region ?_
            refine WL.y (Yl.add rfl rfl (IntWalk.i64_in _ (by omega))) rfl ?_ -- t70
            refine WL.y (Yl.move rfl) rfl ?_ -- t11
            refine WL.nil ?_
            exact ⟨rfl, (j + 1, ao69, c69), by dsimp only; omega, by dsimp only; omega, (by repeat (first | exact Sub.nil | refine Sub.cons rfl ?_)), _, (by repeat (first | exact TakeL.nil | (apply TakeL.cons; · repeat (first | exact Take1.head | apply Take1.tail))))⟩
          · refine WC.seq ?_
            refine WC.region ?_
            refine WL.y (Yl.eql rfl rfl) rfl ?_ -- t45
            refine WL.y (Yl.assign rfl) rfl ?_ -- t44
            refine WL.nil ?_
            refine WC.condD rfl (fun g44 => ?_) (fun g44 => ?_)
            · refine WC.region ?_
              refine WL.y (Yl.move rfl) rfl ?_ -- t46
              refine WL.y (Yl.field fo54_2 rfl) rfl ?_ -- t47
              refine WL.y (Yl.load on28 rfl (by repeat (first | exact Take1.head | apply Take1.tail)) (by rfl)) rfl ?_ -- t48
              refine WL.y (Yl.len un28 rfl) rfl ?_ -- t49
              refine WL.callC (xs := [.tmp 46, .tmp 49]) (cap := []) rfl rfl en33 (by repeat (first | exact TakeL.nil | (apply TakeL.cons; · repeat (first | exact Take1.head | apply Take1.tail)))) (fun w hw => inFixed_nil f.b.length w hw.left.here) rfl ?_ -- t50 (*hailer/wire.In).Fixed
              rintro ⟨⟩ -
              refine WL.y (Yl.field fo54_2 rfl) rfl ?_ -- t51
              refine WL.sto (Sto.one (cs' := (zF f).cells) sz28 rfl rfl (by repeat (first | exact Take1.head | apply Take1.tail)) rfl (by rfl) rfl) (fun _ h => nomatch h) ?_
              refine WL.nil ?_
              refine WC.region ?_
              refine WL.y (Yl.move rfl) rfl ?_ -- t66
              refine WL.y (Yl.loadN ag54 rfl (by repeat (first | exact Take1.head | apply Take1.tail)) (by rfl) (show _ = (zF f).cells from rfl)) rfl ?_ -- t67
              refine WL.to (To.buildSlice (vs := [(zF f).val]) un22 zs54 rfl rfl (by intro v hv; rw [List.mem_singleton.1 hv]; rfl) (by decide) (by decide)) rfl ?_ -- t68
              intro b68
              refine WL.to (To.append sl22 rfl rfl (by repeat (first | exact Take1.head | apply Take1.tail)) (Reads.of (RdOf.blk (size := 5) (n := 1) (cs := flat [(zF f).val]) (cs' := (zF f).cells) (Nat.le_refl _) (by unfold maxLen; omega) (Nat.le_refl _) rfl) (by repeat (first | exact Take1.head | apply Take1.tail))) (zF f).ones rfl (show vcs Fd.val ((fs.take j).map zF) ++ (zF f).cells = vcs Fd.val ((fs.take (j + 1)).map zF) by rw [← take_snoc _ _ _ hfj, List.map_append, vcs_app]; congr 1) (by unfold maxLen; omega) (by omega)) rfl ?_ -- t69
              rintro ⟨⟨ao69, c69⟩, hc69⟩
              dsimp only at hc69 ⊢
              refine WL.y (Yl.assign rfl) rfl ?_ -- t5
              refine WL.nil ?_
              refine WC.region ?_
              refine WL.y (Yl.add rfl rfl (IntWalk.i64_in _ (by omega))) rfl ?_ -- t70
              refine WL.y (Yl.move rfl) rfl ?_ -- t11
              refine WL.nil ?_
              exact ⟨rfl, (j + 1, ao69, c69), by dsimp only; omega, by dsimp only; omega, (by repeat (first | exact Sub.nil | refine Sub.cons rfl ?_)), _, (by repeat (first | exact TakeL.nil | (apply TakeL.cons; · repeat (first | exact Take1.head | apply Take1.tail))))⟩
            · refine WC.seq ?_
              refine WC.region ?_
              refine WL.y (Yl.eql rfl rfl) rfl ?_ -- t53
              refine WL.y (Yl.assign rfl) rfl ?_ -- t52
              refine WL.nil ?_
              refine WC.condD rfl (fun g52 => ?_) (fun g52 => ?_)
              · refine WC.region ?_
                refine WL.y (Yl.move rfl) rfl ?_ -- t54
                refine WL.y (Yl.field fo54_4 rfl) rfl ?_ -- t55
                refine WL.y (Yl.load on3 rfl (by repeat (first | exact Take1.head | apply Take1.tail)) (by rfl)) rfl ?_ -- t56
                refine WL.callC (xs := [.tmp 54, .tmp 56]) (cap := []) rfl rfl en34 (by repeat (first | exact TakeL.nil | (apply TakeL.cons; · repeat (first | exact Take1.head | apply Take1.tail)))) (fun w hw => inSized_nil f.most w hw.left.here) rfl ?_ -- t57 (*hailer/wire.In).Sized
                rintro ⟨⟩ -
                refine WL.y (Yl.field fo54_2 rfl) rfl ?_ -- t58
                refine WL.sto (Sto.one (cs' := (zF f).cells) sz28 rfl rfl (by repeat (first | exact Take1.head | apply Take1.tail)) rfl (by rfl) rfl) (fun _ h => nomatch h) ?_
                refine WL.nil ?_
                refine WC.region ?_
                refine WL.y (Yl.move rfl) rfl ?_ -- t66
                refine WL.y (Yl.loadN ag54 rfl (by repeat (first | exact Take1.head | apply Take1.tail)) (by rfl) (show _ = (zF f).cells from rfl)) rfl ?_ -- t67
                refine WL.to (To.buildSlice (vs := [(zF f).val]) un22 zs54 rfl rfl (by intro v hv; rw [List.mem_singleton.1 hv]; rfl) (by decide) (by decide)) rfl ?_ -- t68
                intro b68
                refine WL.to (To.append sl22 rfl rfl (by repeat (first | exact Take1.head | apply Take1.tail)) (Reads.of (RdOf.blk (size := 5) (n := 1) (cs := flat [(zF f).val]) (cs' := (zF f).cells) (Nat.le_refl _) (by unfold maxLen; omega) (Nat.le_refl _) rfl) (by repeat (first | exact Take1.head | apply Take1.tail))) (zF f).ones rfl (show vcs Fd.val ((fs.take j).map zF) ++ (zF f).cells = vcs Fd.val ((fs.take (j + 1)).map zF) by rw [← take_snoc _ _ _ hfj, List.map_append, vcs_app]; congr 1) (by unfold maxLen; omega) (by omega)) rfl ?_ -- t69
                rintro ⟨⟨ao69, c69⟩, hc69⟩
                dsimp only at hc69 ⊢
                refine WL.y (Yl.assign rfl) rfl ?_ -- t5
                refine WL.nil ?_
                refine WC.region ?_
                refine WL.y (Yl.add rfl rfl (IntWalk.i64_in _ (by omega))) rfl ?_ -- t70
                refine WL.y (Yl.move rfl) rfl ?_ -- t11
                refine WL.nil ?_
                exact ⟨rfl, (j + 1, ao69, c69), by dsimp only; omega, by dsimp only; omega, (by repeat (first | exact Sub.nil | refine Sub.cons rfl ?_)), _, (by repeat (first | exact TakeL.nil | (apply TakeL.cons; · repeat (first | exact Take1.head | apply Take1.tail))))⟩
              · refine WC.seq ?_
                refine WC.region ?_
                refine WL.y (Yl.eql rfl rfl) rfl ?_ -- t60
                refine WL.y (Yl.assign rfl) rfl ?_ -- t59
                refine WL.nil ?_
                refine WC.condD rfl (fun g59 => ?_) (fun g59 => ?_)
                · refine WC.region ?_
                  refine WL.y (Yl.move rfl) rfl ?_ -- t61
                  refine WL.y (Yl.field fo54_4 rfl) rfl ?_ -- t62
                  refine WL.y (Yl.load on3 rfl (by repeat (first | exact Take1.head | apply Take1.tail)) (by rfl)) rfl ?_ -- t63
                  refine WL.callC (xs := [.tmp 61, .tmp 63, .func 36]) (cap := []) rfl rfl en35 (by repeat (first | exact TakeL.nil | (apply TakeL.cons; · repeat (first | exact Take1.head | apply Take1.tail)))) (fun w hw => takeList_nil f.most _ w hw.left.here) rfl ?_ -- t64 hailer/wire.TakeList[uint32]
                  rintro ⟨⟩ -
                  refine WL.y (Yl.field fo54_3 rfl) rfl ?_ -- t65
                  refine WL.sto (Sto.one (cs' := (zF f).cells) sz52 rfl rfl (by repeat (first | exact Take1.head | apply Take1.tail)) rfl (by rfl) rfl) (fun _ h => nomatch h) ?_
                  refine WL.nil ?_
                  refine WC.region ?_
                  refine WL.y (Yl.move rfl) rfl ?_ -- t66
                  refine WL.y (Yl.loadN ag54 rfl (by repeat (first | exact Take1.head | apply Take1.tail)) (by rfl) (show _ = (zF f).cells from rfl)) rfl ?_ -- t67
                  refine WL.to (To.buildSlice (vs := [(zF f).val]) un22 zs54 rfl rfl (by intro v hv; rw [List.mem_singleton.1 hv]; rfl) (by decide) (by decide)) rfl ?_ -- t68
                  intro b68
                  refine WL.to (To.append sl22 rfl rfl (by repeat (first | exact Take1.head | apply Take1.tail)) (Reads.of (RdOf.blk (size := 5) (n := 1) (cs := flat [(zF f).val]) (cs' := (zF f).cells) (Nat.le_refl _) (by unfold maxLen; omega) (Nat.le_refl _) rfl) (by repeat (first | exact Take1.head | apply Take1.tail))) (zF f).ones rfl (show vcs Fd.val ((fs.take j).map zF) ++ (zF f).cells = vcs Fd.val ((fs.take (j + 1)).map zF) by rw [← take_snoc _ _ _ hfj, List.map_append, vcs_app]; congr 1) (by unfold maxLen; omega) (by omega)) rfl ?_ -- t69
                  rintro ⟨⟨ao69, c69⟩, hc69⟩
                  dsimp only at hc69 ⊢
                  refine WL.y (Yl.assign rfl) rfl ?_ -- t5
                  refine WL.nil ?_
                  refine WC.region ?_
                  refine WL.y (Yl.add rfl rfl (IntWalk.i64_in _ (by omega))) rfl ?_ -- t70
                  refine WL.y (Yl.move rfl) rfl ?_ -- t11
                  refine WL.nil ?_
                  exact ⟨rfl, (j + 1, ao69, c69), by dsimp only; omega, by dsimp only; omega, (by repeat (first | exact Sub.nil | refine Sub.cons rfl ?_)), _, (by repeat (first | exact TakeL.nil | (apply TakeL.cons; · repeat (first | exact Take1.head | apply Take1.tail))))⟩
                · refine WC.skip ?_
                  refine WC.region ?_
                  refine WL.y (Yl.move rfl) rfl ?_ -- t66
                  refine WL.y (Yl.loadN ag54 rfl (by repeat (first | exact Take1.head | apply Take1.tail)) (by rfl) (show _ = (zF f).cells from rfl)) rfl ?_ -- t67
                  refine WL.to (To.buildSlice (vs := [(zF f).val]) un22 zs54 rfl rfl (by intro v hv; rw [List.mem_singleton.1 hv]; rfl) (by decide) (by decide)) rfl ?_ -- t68
                  intro b68
                  refine WL.to (To.append sl22 rfl rfl (by repeat (first | exact Take1.head | apply Take1.tail)) (Reads.of (RdOf.blk (size := 5) (n := 1) (cs := flat [(zF f).val]) (cs' := (zF f).cells) (Nat.le_refl _) (by unfold maxLen; omega) (Nat.le_refl _) rfl) (by repeat (first | exact Take1.head | apply Take1.tail))) (zF f).ones rfl (show vcs Fd.val ((fs.take j).map zF) ++ (zF f).cells = vcs Fd.val ((fs.take (j + 1)).map zF) by rw [← take_snoc _ _ _ hfj, List.map_append, vcs_app]; congr 1) (by unfold maxLen; omega) (by omega)) rfl ?_ -- t69
                  rintro ⟨⟨ao69, c69⟩, hc69⟩
                  dsimp only at hc69 ⊢
                  refine WL.y (Yl.assign rfl) rfl ?_ -- t5
                  refine WL.nil ?_
                  refine WC.region ?_
                  refine WL.y (Yl.add rfl rfl (IntWalk.i64_in _ (by omega))) rfl ?_ -- t70
                  refine WL.y (Yl.move rfl) rfl ?_ -- t11
                  refine WL.nil ?_
                  exact ⟨rfl, (j + 1, ao69, c69), by dsimp only; omega, by dsimp only; omega, (by repeat (first | exact Sub.nil | refine Sub.cons rfl ?_)), _, (by repeat (first | exact TakeL.nil | (apply TakeL.cons; · repeat (first | exact Take1.head | apply Take1.tail))))⟩
  · refine WC.exit ?_
    refine WC.seq ?_
    refine WC.region ?_
    refine WL.y (Yl.move rfl) rfl ?_ -- t71
    refine WL.y (Yl.assign rfl) rfl ?_ -- t4
    refine WL.nil ?_
    refine WC.ret ?_
    repeat (first | (with_reducible refine peelT ?_) | (with_reducible refine peelB ?_) | (with_reducible refine peelTX ?_) | (with_reducible refine peelBX ?_) | (with_reducible refine peelBN ?_) | (with_reducible refine peelBO rfl ?_))
    have hj2 : j = fs.length := by omega
    subst hj2
    exact ret1 (.inr rfl) Try.results13 rfl fun w' h => ⟨(ao2, co2), trivial, rfl, by rw [List.take_length] at h; exact h.sub (by repeat (first | exact TakeL.nil | (apply TakeL.cons; · repeat (first | exact Take1.head | apply Take1.tail))))⟩

theorem putListI_nil (b : Nat) (x : Option Addr × Nat) (w : World) (hw : OK w (fpL (oR b x 3 [] false)) (oR b x 3 [] false) w) :
    Fn Try.prog 22 [.pointer (some ⟨b, 0, none⟩), .int .i64 1, .slice none 0 0, .nilFunc] (oR b x 3 [] false) w (fun _ : Unit => True) (fun _ => .tuple #[]) (fun _ => []) := by
  refine enterF Try.func22 rfl Try.ntmps22 rfl hw ?_
  refine WC.seq ?_
  refine WC.seq ?_
  refine WC.region ?_
  refine WL.y (Yl.move rfl) rfl ?_ -- t10
  refine WL.y (Yl.nilNe un25 rfl rfl) rfl ?_ -- t11
  refine WL.nil ?_
  refine WC.condT rfl (by first | rfl | (simp; done) | (simp; omega)) ?_
  refine WC.region ?_
  refine WL.y (Yl.move rfl) rfl ?_ -- t12
  refine WL.y (Yl.move rfl) rfl ?_ -- t13
  refine WL.y (Yl.nilCheck rfl) rfl ?_ -- t14
  refine WL.y (Yl.field fo59_2 rfl) rfl ?_ -- t15
  refine WL.y (Yl.load on4 rfl (by repeat (first | exact Take1.head | apply Take1.tail)) (by rfl)) rfl ?_ -- t16
  refine WL.know (t := 16) (b' := false) rfl (by first | rfl | (simp; done) | (simp; omega)) ?_
  refine WL.y (Yl.move rfl) rfl ?_ -- t17
  refine WL.on rfl rfl ?_
  refine WL.y (Yl.move rfl) rfl ?_ -- t18
  refine WL.on rfl rfl ?_
  refine WL.y (Yl.eqlG rfl rfl (b := true) (fun w => by kernel_rfl)) rfl ?_
  refine WL.know (t := 19) (b' := true) rfl (by first | rfl | (simp; done) | (simp; omega)) ?_
  refine WL.y (Yl.pickF rfl rfl) rfl ?_ -- t20
  refine WL.y (Yl.move rfl) rfl ?_ -- t21
  refine WL.off rfl rfl rfl rfl ?_ -- t22
  refine WL.off rfl rfl rfl rfl ?_ -- t23
  refine WL.y (Yl.pickT rfl rfl) rfl ?_ -- t24
  refine WL.y (Yl.nilCheck rfl) rfl ?_ -- t25
  refine WL.y (Yl.field fo59_2 rfl) rfl ?_ -- t26
  refine WL.sto (Sto.one sz4 rfl rfl (by repeat (first | exact Take1.head | apply Take1.tail)) rfl (by rfl) (by rfl)) (fun _ h => nomatch h) ?_ -- st 1
  refine WL.nil ?_
  refine WC.seq ?_
  refine WC.seq ?_
  refine WC.region ?_
  refine WL.y (Yl.move rfl) rfl ?_ -- t27
  refine WL.y (Yl.move rfl) rfl ?_ -- t28
  refine WL.y (Yl.move rfl) rfl ?_ -- t29
  refine WL.y (Yl.len un56 rfl) rfl ?_ -- t30
  refine WL.callC (xs := [.tmp 27, .tmp 28, .tmp 30]) (cap := []) rfl rfl en41 (by repeat (first | exact TakeL.nil | (apply TakeL.cons; · repeat (first | exact Take1.head | apply Take1.tail)))) (fun w hw => outMany_any b x 3 [] true 1 0 (by omega) (.inl rfl) (by simp) w hw.left.here) rfl ?_ -- t31 (*hailer/wire.Out).many
  intro y31 _
  rw [mny_wr]
  dsimp only
  refine WL.y (Yl.not rfl) rfl ?_ -- t32
  refine WL.nil ?_
  refine WC.condT rfl (by first | rfl | (simp; done) | (simp; omega)) ?_
  refine WC.ret ?_
  repeat (first | (with_reducible refine peelT ?_) | (with_reducible refine peelB ?_) | (with_reducible refine peelTX ?_) | (with_reducible refine peelBX ?_) | (with_reducible refine peelBN ?_) | (with_reducible refine peelBO rfl ?_))
  exact ret0 (.inr rfl) Try.results22 fun w' h => ⟨(), trivial, rfl, h.sub (by repeat (first | exact TakeL.nil | (apply TakeL.cons; · repeat (first | exact Take1.head | apply Take1.tail))))⟩
theorem mnW_t (bs : List Int) (m : Int) : mnW bs true m = true := by simp [mnW, tkW_true]
theorem takeListI_nil (b : Nat) (ao : Option Addr) (cap : Nat) (B : List Int) (W : Bool) (r : Res) (hr : RdOf r (.slice ao B.length cap) 1 B.length (ints .u8 B)) (hc : B.length ≤ cap) (hB : Bytes B) (w : World) (hw : OK w (fpL [inR b (.slice ao B.length cap) W, r]) [inR b (.slice ao B.length cap) W, r] w) :
    Fn Try.prog 23 [.pointer (some ⟨b, 0, none⟩), .int .i64 1, .nilFunc] [inR b (.slice ao B.length cap) W, r] w (fun _ : Unit => True) (fun _ => .slice none 0 0) (fun _ => []) := by
  refine enterF Try.func23 rfl Try.ntmps23 rfl hw ?_
  refine WC.seq ?_
  refine WC.region ?_
  refine WL.y (Yl.assign rfl) rfl ?_ -- t6
  refine WL.nil ?_
  refine WC.seq ?_
  refine WC.seq ?_
  refine WC.region ?_
  refine WL.y (Yl.move rfl) rfl ?_ -- t9
  refine WL.y (Yl.nilNe un35 rfl rfl) rfl ?_ -- t10
  refine WL.know (t := 10) (b' := true) rfl (by first | rfl | (simp; done) | (simp; omega)) ?_
  refine WL.y (Yl.move rfl) rfl ?_ -- t11
  refine WL.on rfl rfl ?_
  refine WL.y (Yl.move rfl) rfl ?_ -- t12
  refine WL.on rfl rfl ?_
  refine WL.y (Yl.eqlG rfl rfl (b := true) (fun w => by kernel_rfl)) rfl ?_
  refine WL.know (t := 13) (b' := true) rfl (by first | rfl | (simp; done) | (simp; omega)) ?_
  refine WL.y (Yl.pickT rfl rfl) rfl ?_ -- t14
  refine WL.nil ?_
  refine WC.condT rfl (by first | rfl | (simp; done) | (simp; omega)) ?_
  refine WC.region ?_
  refine WL.y (Yl.move rfl) rfl ?_ -- t15
  refine WL.y (Yl.nilCheck rfl) rfl ?_ -- t16
  refine WL.y (Yl.field fo67_1 rfl) rfl ?_ -- t17
  refine WL.sto (Sto.one sz4 rfl rfl (by repeat (first | exact Take1.head | apply Take1.tail)) rfl (by rfl) (by rfl)) (fun _ h => nomatch h) ?_ -- st 1
  refine WL.nil ?_
  refine WC.seq ?_
  refine WC.region ?_
  refine WL.y (Yl.assign rfl) rfl ?_ -- t7
  refine WL.nil ?_
  refine WC.seq ?_
  refine WC.seq ?_
  refine WC.region ?_
  refine WL.y (Yl.move rfl) rfl ?_ -- t18
  refine WL.y (Yl.move rfl) rfl ?_ -- t19
  refine WL.callC (xs := [.tmp 18, .tmp 19]) (cap := []) rfl rfl en43 (by repeat (first | exact TakeL.nil | (apply TakeL.cons; · repeat (first | exact Take1.head | apply Take1.tail)))) (fun w hw => inMany_any b ao cap B true 1 r hr hc hB w hw.left.here) rfl ?_ -- t20 (*hailer/wire.In).many
  rintro ⟨a1, c1⟩ -
  dsimp only
  rw [mnW_t, if_pos rfl]
  refine WL.y (Yl.assign rfl) rfl ?_ -- t8
  refine WL.nil ?_
  refine WC.block ?_
  refine WC.loop (α := Unit) (fun _ => [(0, .pointer (some ⟨b, 0, none⟩)), (6, .slice none 0 0), (7, .slice none 0 0), (8, .int .i64 (-1))]) (fun _ => [inR b (.slice a1 (tkB 2 B true).length c1) true]) (fun _ => True) (fun _ => 0) () trivial ⟨(by repeat (first | exact Sub.nil | refine Sub.cons rfl ?_)), _, (by repeat (first | exact TakeL.nil | (apply TakeL.cons; · repeat (first | exact Take1.head | apply Take1.tail))))⟩ ?_
  intro _ _
  refine WC.seq ?_
  refine WC.seq ?_
  refine WC.region ?_
  refine WL.y (Yl.move rfl) rfl ?_ -- t21
  refine WL.y (Yl.gtr rfl rfl) rfl ?_ -- t22
  refine WL.know (t := 22) (b' := false) rfl (by first | rfl | (simp; done) | (simp; omega)) ?_
  refine WL.y (Yl.move rfl) rfl ?_ -- t23
  refine WL.off rfl rfl rfl rfl ?_ -- t24
  refine WL.off rfl rfl rfl rfl ?_ -- t25
  refine WL.off rfl rfl rfl rfl ?_ -- t26
  refine WL.off rfl rfl rfl rfl ?_ -- t27
  refine WL.off rfl rfl rfl rfl ?_ -- t28
  refine WL.y (Yl.pickF rfl rfl) rfl ?_ -- t29
  refine WL.nil ?_
  refine WC.condF rfl (by first | rfl | (simp; done) | (simp; omega)) ?_
  refine WC.exit ?_
  refine WC.seq ?_
  refine WC.seq ?_
  refine WC.region ?_
  refine WL.y (Yl.move rfl) rfl ?_ -- t38
  refine WL.y (Yl.nilEq un35 rfl rfl) rfl ?_ -- t39
  refine WL.know (t := 39) (b' := false) rfl (by first | rfl | (simp; done) | (simp; omega)) ?_
  refine WL.y (Yl.move rfl) rfl ?_ -- t40
  refine WL.on rfl rfl ?_
  refine WL.y (Yl.move rfl) rfl ?_ -- t41
  refine WL.on rfl rfl ?_
  refine WL.y (Yl.nilCheck rfl) rfl ?_ -- t42
  refine WL.on rfl rfl ?_
  refine WL.y (Yl.field fo67_1 rfl) rfl ?_ -- t43
  refine WL.on rfl rfl ?_
  refine WL.y (Yl.load on4 rfl (by repeat (first | exact Take1.head | apply Take1.tail)) (by rfl)) rfl ?_ -- t44
  refine WL.know (t := 44) (b' := true) rfl (by first | rfl | (simp; done) | (simp; omega)) ?_
  refine WL.y (Yl.pickF rfl rfl) rfl ?_ -- t45
  refine WL.nil ?_
  refine WC.condT rfl (by first | rfl | (simp; done) | (simp; omega)) ?_
  refine WC.seq ?_
  refine WC.region ?_
  refine WL.y (Yl.assign rfl) rfl ?_ -- t6
  refine WL.nil ?_
  refine WC.ret ?_
  repeat (first | (with_reducible refine peelT ?_) | (with_reducible refine peelB ?_) | (with_reducible refine peelTX ?_) | (with_reducible refine peelBX ?_) | (with_reducible refine peelBN ?_) | (with_reducible refine peelBO rfl ?_))
  exact ret1 (.inr rfl) Try.results23 rfl fun w' h => ⟨(), trivial, rfl, h.sub (by repeat (first | exact TakeL.nil | (apply TakeL.cons; · repeat (first | exact Take1.head | apply Take1.tail))))⟩

theorem outBytes_all (b : Nat) (x : Option Addr × Nat) (lim : Int) (bs : List Int) (wr : Bool) (hsz : bs.length ≤ 140737488355328) (w : World) (hw : OK w (fpL (oR b x lim bs wr)) (oR b x lim bs wr) w) :
    Fn Try.prog 10 [.pointer (some ⟨b, 0, none⟩)] (oR b x lim bs wr) w (fun y : Option Addr × Nat => (if (wr || decide (lim < 0)) = true then [] else bs).length ≤ y.2) (fun y => .tuple #[.slice y.1 (if (wr || decide (lim < 0)) = true then [] else bs).length y.2, .int .i64 (if (wr || decide (lim < 0)) = true then 3 else 0)])
      (fun y => ownR (.slice y.1 (if (wr || decide (lim < 0)) = true then [] else bs).length y.2) 5 1 (if (wr || decide (lim < 0)) = true then [] else bs).length (ints .u8 (if (wr || decide (lim < 0)) = true then [] else bs)) :: oR b x lim bs wr) := by
  cases h : (wr || decide (lim < 0)) with
  | true =>
    refine (outBytes_bad b x lim bs wr h w hw).mono ?_
    rintro e w' ⟨_, _, h1, h2⟩
    exact ⟨(none, 0), Nat.le_refl _, h1, h2.addNil _ _⟩
  | false =>
    have h1 : wr = false := by cases wr <;> simp_all
    have h2 : 0 ≤ lim := by simp at h; omega
    subst h1
    exact outBytes_ok b x lim bs h2 hsz w hw

def trc (t : Int × Int × Int) : List Value := [.int .i64 t.1, .int .i64 t.2.1, .int .i64 t.2.2]
def trv (t : Int × Int × Int) : Value := .agg (trc t).toArray
theorem tr1 (t : Int × Int × Int) : ∀ u ∈ trc t, u.oneCell' = true := by
  intro v hv
  simp only [trc, List.mem_cons, List.not_mem_nil, or_false] at hv
  rcases hv with rfl | rfl | rfl <;> rfl
theorem trV : VT Try.prog 45 3 (fun _ : Int × Int × Int => True) trv := .agg (cel := trc) ag45 (by kernel_rfl) (by decide) (fun _ => rfl) (fun _ _ => rfl) tr1
def trs : List (Int × Int × Int) := [(9, 4, 0), (8, 4, 3), (9, 1, 3)]
def hiB : List Int := [1, 0, 0, 0, 2, 0, 2, 104, 105]
def finT (t : Int × Int × Int) : List Int × Bool := pt t.1 (mny t.1 (pts t.1 (pt t.1 ([], false) [1]) (b4 [2])) t.2.1 2) [104, 105]
theorem trF : ∀ t ∈ trs, (0 ≤ t.1 ∧ t.1 ≤ 9) ∧ (finT t).2 = decide (t.2.2 ≠ 0) ∧ (t.2.2 = 0 ∨ t.2.2 = 3) ∧ (t.2.2 = 0 → (finT t).1 = hiB) := by
  intro t ht
  simp only [trs, List.mem_cons, List.not_mem_nil, or_false] at ht
  rcases ht with rfl | rfl | rfl <;> decide +kernel
def kz (k : Int) : Fd := Fd.mk k 0 none 0 [] none 0 [] 0
def kzs : List Fd := [kz 0, kz 1, kz 2, kz 3, kz 4, kz 5, kz 6]
theorem kz_mem {f : Fd} (h : f ∈ kzs) : ∃ k : Int, (0 ≤ k ∧ k < 7) ∧ f = kz k := by
  simp only [kzs, List.mem_cons, List.not_mem_nil, or_false] at h
  rcases h with rfl | rfl | rfl | rfl | rfl | rfl | rfl <;> exact ⟨_, by decide, rfl⟩
theorem kzs_ok : ∀ f ∈ kzs, f.ok := by
  intro f h
  obtain ⟨k, hk, rfl⟩ := kz_mem h
  exact ⟨(show 0 ≤ k ∧ k < 256 by omega), (show (0 : Int) ≤ 0 ∧ (0 : Int) < 18446744073709551616 by decide), (fun _ h => by cases h), (fun _ h => by cases h), (show (-9223372036854775808 : Int) ≤ 0 ∧ (0 : Int) ≤ 9223372036854775807 by decide)⟩
theorem kz_of (b : Nat) : FdOf (blkR b 54 (vcs Fd.val kzs)) (.slice (some ⟨b, 0, none⟩) 7 7) kzs := by
  refine ⟨RdOf.blk (Nat.le_refl _) (by unfold maxLen; omega) (Nat.le_refl _) rfl, fun f h => ?_, fun f h => ?_⟩
  · obtain ⟨k, _, rfl⟩ := kz_mem h; exact RdOf.nothing
  · obtain ⟨k, _, rfl⟩ := kz_mem h; exact RdOf.nothing
theorem by1 {x : Int} (h : 0 ≤ x ∧ x < 256) : Bytes [x] := fun y hy => by simp at hy; subst hy; exact h
theorem by2 {x z : Int} (h : 0 ≤ x ∧ x < 256) (h2 : 0 ≤ z ∧ z < 256) : Bytes [x, z] := fun y hy => by
  simp at hy
  rcases hy with rfl | rfl
  · exact h
  · exact h2

set_option maxRecDepth 100000 in
theorem wknown_any (w : World) (hw : OK w (fpL []) [] w) : Fn Try.prog 6 [] [] w (fun _ : Unit => True) (fun _ => .bool true) (fun _ => []) := by
  have hk7 : kzs.length = 7 := rfl
  refine enterF Try.func6 rfl Try.ntmps6 rfl hw ?_
  refine WC.seq ?_
  refine WC.region ?_
  refine WL.y (Yl.assign rfl) rfl ?_ -- t0
  refine WL.nil ?_
  refine WC.seq ?_
  refine WC.seq ?_
  refine WC.region ?_
  refine WL.y (Yl.build rfl (cs := trc (9, 4, 0)) (fun _ => by kernel_rfl)) rfl ?_ -- t14
  refine WL.y (Yl.build rfl (cs := trc (8, 4, 3)) (fun _ => by kernel_rfl)) rfl ?_ -- t15
  refine WL.y (Yl.build rfl (cs := trc (9, 1, 3)) (fun _ => by kernel_rfl)) rfl ?_ -- t16
  refine WL.to (To.buildSlice (vs := [trv (9, 4, 0), trv (8, 4, 3), trv (9, 1, 3)]) un46 zs45 rfl rfl (by intro v hv; simp only [List.mem_cons, List.not_mem_nil, or_false] at hv; rcases hv with rfl | rfl | rfl <;> rfl) (by decide) (by decide)) rfl ?_ -- t17
  intro b17
  refine WL.y (Yl.len un46 rfl) rfl ?_ -- t18
  refine WL.y (Yl.move rfl) rfl ?_ -- t19
  refine WL.nil ?_
  refine WC.block ?_
  refine WC.loop (α := Nat) (fun j => [(17, .slice (some ⟨b17, 0, none⟩) 3 3), (18, .int .i64 3), (19, .int .i64 (j : Int))]) (fun _ => [blkR b17 45 (vcs trv trs)]) (fun j => j ≤ 3) (fun j => 3 - j) 0 (Nat.zero_le _) ⟨(by repeat (first | exact Sub.nil | refine Sub.cons rfl ?_)), _, (by repeat (first | exact TakeL.nil | (apply TakeL.cons; · repeat (first | exact Take1.head | apply Take1.tail))))⟩ ?_
  intro j hj
  refine WC.seq ?_
  refine WC.region ?_
  refine WL.y (Yl.lss rfl rfl) rfl ?_ -- t20
  refine WL.nil ?_
  refine WC.seq ?_
  refine WC.condD rfl (fun g20 => ?_) (fun g20 => ?_)
  · refine WC.skip ?_
    refine WC.seq ?_
    refine WC.block ?_
    refine WC.seq ?_
    refine WC.region ?_
    obtain ⟨t, ht⟩ : ∃ t, trs[j]? = some t := ⟨_, List.getElem?_eq_getElem (show j < 3 by omega)⟩
    obtain ⟨hL, hF2, hFe, hF1⟩ := trF t (List.mem_of_getElem? ht)
    have hlo : -9223372036854775808 ≤ t.1 ∧ t.1 ≤ 9223372036854775807 := by omega
    refine WL.y (Yl.index un46 sz45 rfl rfl (Reads.of (RdOf.blk (b := b17) (off := 0) (n := 3) (cap := 3) (size := 3) (cs := vcs trv trs) (cs' := vcs trv trs) (Nat.le_refl _) (by unfold maxLen; omega) (Nat.le_refl _) rfl) (by repeat (first | exact Take1.head | apply Take1.tail))) rfl (by omega)) rfl ?_ -- t21
    refine WL.y (Yl.loadV (j := j) (u := t) trV (fun _ _ => trivial) rfl (Reads.of (RdOf.blk (b := b17) (off := 0) (n := 3) (cap := 3) (size := 3) (cs := vcs trv trs) (cs' := vcs trv trs) (Nat.le_refl _) (by unfold maxLen; omega) (Nat.le_refl _) rfl) (by repeat (first | exact Take1.head | apply Take1.tail))) rfl ht) rfl ?_
    refine WL.to (To.alloc (cs := [.int .i64 0, .int .i64 0, .int .i64 0]) zr45 rfl) rfl ?_ -- t2
    intro b2
    refine WL.sto (Sto.agg sz45 rfl rfl (by repeat (first | exact Take1.head | apply Take1.tail)) (tr1 t) rfl (by rfl) (show _ = trc t from rfl)) (fun _ h => nomatch h) ?_ -- st 1
    refine WL.nil ?_
    refine WC.seq ?_
    refine WC.region ?_
    refine WL.y (Yl.field fo45_0 rfl) rfl ?_ -- t23
    refine WL.y (Yl.load on3 rfl (by repeat (first | exact Take1.head | apply Take1.tail)) (show (trc t)[0 + 0]? = some (.int .i64 t.1) from rfl)) rfl ?_ -- t24
    refine WL.callC (xs := [.tmp 24]) (cap := []) rfl rfl en8 (by repeat (first | exact TakeL.nil | (apply TakeL.cons; · repeat (first | exact Take1.head | apply Take1.tail)))) (fun w hw => newOut_any t.1 w hw.left.here) rfl ?_ -- t25 hailer/wire.NewOut
    intro b25 _
    refine WL.y (Yl.assign rfl) rfl ?_ -- t3
    refine WL.nil ?_
    refine WC.seq ?_
    refine WC.region ?_
    refine WL.y (Yl.move rfl) rfl ?_ -- t26
    refine WL.to (To.buildSlice (vs := [.int .u8 1]) un28 zs5 rfl rfl (by simp [Value.cells]) (by decide) (by decide)) rfl ?_ -- t27
    intro b27
    refine WL.callC (xs := [.tmp 26, .tmp 27]) (cap := []) rfl rfl en18 (by repeat (first | exact TakeL.nil | (apply TakeL.cons; · repeat (first | exact Take1.head | apply Take1.tail)))) (fun w hw => outU8_any b25 (none, 0) t.1 [] false [1] (.slice (some ⟨b27, 0, none⟩) 1 1) hlo (.inl rfl) (by simp) w (hw.src (RdOf.blk (cs := [.int .u8 1]) (Nat.le_refl _) (by unfold maxLen; omega) (by simp) rfl) (by repeat (first | exact Take1.head | apply Take1.tail))) hw.left.here) rfl ?_ -- t28 (*hailer/wire.Out).U8
    intro y28 _
    have hf1 : Fit t.1 (pt t.1 ([], false) [1]) := pt_fit (.inl rfl) _
    have hl1 := pt_len t.1 ([], false) [1]
    unfold finT at hF1 hF2
    generalize pt t.1 ([], false) [1] = s1 at hf1 hl1 hF1 hF2 ⊢
    obtain ⟨s1b, s1w⟩ := s1
    dsimp only at hl1 ⊢
    refine WL.nil ?_
    refine WC.seq ?_
    refine WC.region ?_
    refine WL.y (Yl.move rfl) rfl ?_ -- t29
    refine WL.to (To.buildSlice (vs := [.int .u32 2]) un52 zs49 rfl rfl (by simp [Value.cells]) (by decide) (by decide)) rfl ?_ -- t30
    intro b30
    refine WL.callC (xs := [.tmp 29, .tmp 30]) (cap := []) rfl rfl en19 (by repeat (first | exact TakeL.nil | (apply TakeL.cons; · repeat (first | exact Take1.head | apply Take1.tail)))) (fun w hw => outU32_any b25 y28 t.1 s1b s1w [2] (.slice (some ⟨b30, 0, none⟩) 1 1) hlo hf1 (by rw [total_b4]; simp at hl1 ⊢; omega) (by intro x hx; simp at hx; omega) w (hw.src (RdOf.blk (cs := [.int .u32 2]) (Nat.le_refl _) (by unfold maxLen; omega) (by simp) rfl) (by repeat (first | exact Take1.head | apply Take1.tail))) hw.left.here) rfl ?_ -- t31 (*hailer/wire.Out).U32
    intro y31 _
    have hf2 := pts_fit (b4 [2]) hf1
    have hl2 := pts_len (lim := t.1) (b4 [2]) (s1b, s1w)
    rw [total_b4] at hl2
    generalize pts t.1 (s1b, s1w) (b4 [2]) = s2 at hf2 hl2 hF1 hF2 ⊢
    obtain ⟨s2b, s2w⟩ := s2
    dsimp only at hl2 ⊢
    refine WL.nil ?_
    refine WC.seq ?_
    refine WC.region ?_
    refine WL.y (Yl.move rfl) rfl ?_ -- t32
    refine WL.y (Yl.field fo45_1 rfl) rfl ?_ -- t33
    refine WL.y (Yl.load on3 rfl (by repeat (first | exact Take1.head | apply Take1.tail)) (show (trc t)[0 + 1]? = some (.int .i64 t.2.1) from rfl)) rfl ?_ -- t34
    refine WL.to (To.buildSlice (vs := [.int .u8 104, .int .u8 105]) un28 zs5 rfl rfl (by simp [Value.cells]) (by decide) (by decide)) rfl ?_ -- t35
    intro b35
    refine WL.to (To.convMark un28 un5 rfl (by repeat (first | exact Take1.head | apply Take1.tail)) rfl (by decide)) rfl ?_ -- t36
    rintro ⟨⟩
    refine WL.callC (xs := [.tmp 32, .tmp 34, .tmp 36]) (cap := []) rfl rfl en20 (by repeat (first | exact TakeL.nil | (apply TakeL.cons; · repeat (first | exact Take1.head | apply Take1.tail)))) (fun w hw => outSized_any b25 y31 t.1 s2b s2w t.2.1 [104, 105] (.slice (some ⟨b35, 0, none⟩) 2 2) hlo hf2 (by simp at hl1 hl2 ⊢; omega) w (hw.src (show RdOf _ (.slice (some ⟨b35, 0, none⟩) 2 2) 1 2 (ints .u8 [104, 105]) from RdOf.rd') (by repeat (first | exact Take1.head | apply Take1.tail))) hw.left.here) rfl ?_ -- t37 (*hailer/wire.Out).Sized
    intro y37 _
    have hl3 := pt_len t.1 (mny t.1 (s2b, s2w) t.2.1 ([104, 105] : List Int).length) [104, 105]
    have hl4 := mny_len t.1 (s2b, s2w) t.2.1 ([104, 105] : List Int).length
    have e2 : ([104, 105] : List Int).length = 2 := rfl
    rw [e2] at hl3 hl4 ⊢
    generalize pt t.1 (mny t.1 (s2b, s2w) t.2.1 2) [104, 105] = s3 at hl3 hF1 hF2 ⊢
    obtain ⟨s3b, s3w⟩ := s3
    dsimp only at hl3 hl4 hF1 hF2 ⊢
    refine WL.nil ?_
    refine WC.seq ?_
    refine WC.region ?_
    refine WL.y (Yl.move rfl) rfl ?_ -- t39
    refine WL.callC (xs := [.tmp 39]) (cap := []) rfl rfl en10 (by repeat (first | exact TakeL.nil | (apply TakeL.cons; · repeat (first | exact Take1.head | apply Take1.tail)))) (fun w hw => outBytes_all b25 y37 t.1 s3b s3w (by simp at hl1 hl2 ⊢; omega) w hw.left.here) rfl ?_ -- t40 (*hailer/wire.Out).Bytes
    rintro ⟨a40, c40⟩ -
    have ec : (s3w || decide (t.1 < 0)) = decide (t.2.2 ≠ 0) := by rw [hF2, decide_eq_false (show ¬ t.1 < 0 by omega), Bool.or_false]
    have ec2 : (if decide (t.2.2 ≠ 0) = true then (3 : Int) else 0) = t.2.2 := by rcases hFe with h | h <;> rw [h] <;> rfl
    dsimp only
    rw [ec, ec2]
    refine WL.y (Yl.move rfl) rfl ?_ -- t38
    refine WL.y (Yl.extract rfl rfl) rfl ?_ -- t41
    refine WL.y (Yl.extract rfl rfl) rfl ?_ -- t42
    refine WL.y (Yl.assign rfl) rfl ?_ -- t4
    refine WL.y (Yl.assign rfl) rfl ?_ -- t5
    refine WL.nil ?_
    refine WC.seq ?_
    refine WC.region ?_
    refine WL.y (Yl.move rfl) rfl ?_ -- t43
    refine WL.y (Yl.field fo45_2 rfl) rfl ?_ -- t44
    refine WL.y (Yl.load on29 rfl (by repeat (first | exact Take1.head | apply Take1.tail)) (show (trc t)[0 + 2]? = some (.int .i64 t.2.2) from rfl)) rfl ?_ -- t45
    refine WL.y (Yl.neq rfl rfl) rfl ?_ -- t46
    refine WL.know (t := 46) (b' := false) rfl (by simp) ?_
    refine WL.y (Yl.move rfl) rfl ?_ -- t47
    refine WL.on rfl rfl ?_
    refine WL.y (Yl.move rfl) rfl ?_ -- t48
    refine WL.on rfl rfl ?_
    refine WL.y (Yl.eql rfl rfl) rfl ?_ -- t49
    refine WL.on rfl rfl ?_
    refine WL.y (Yl.move rfl) rfl ?_ -- t50
    refine WL.both (t := 50) rfl (fun g50 => ?_) (fun g50 => ?_)
    · refine WL.on rfl rfl ?_
      refine WL.y (Yl.move rfl) rfl ?_ -- t51
      refine WL.on rfl rfl ?_
      have he0 : t.2.2 = 0 := by simpa using g50
      have eB : (if decide (t.2.2 ≠ 0) = true then [] else s3b) = hiB := by rw [he0]; exact hF1 he0
      rw [eB]
      refine WL.y (Yl.toStr un28 un5 un9 rfl (Reads.of RdOf.own (by repeat (first | exact Take1.head | apply Take1.tail)))) rfl ?_ -- t52
      refine WL.on rfl rfl ?_
      refine WL.y (Yl.sNe rfl rfl) rfl ?_ -- t53
      refine WL.know (t := 53) (b' := false) rfl (by decide +kernel) ?_
      refine WL.on rfl rfl ?_
      refine WL.y (Yl.pickT rfl rfl) rfl ?_ -- t54
      refine WL.y (Yl.pickF rfl rfl) rfl ?_ -- t55
      refine WL.y (Yl.move rfl) rfl ?_ -- t56
      refine WL.on rfl rfl ?_
      refine WL.y (Yl.move rfl) rfl ?_ -- t57
      refine WL.on rfl rfl ?_
      refine WL.y (Yl.neq rfl rfl) rfl ?_ -- t58
      refine WL.know (t := 58) (b' := false) rfl (by simp at g50; simp [g50]) ?_
      refine WL.on rfl rfl ?_
      refine WL.y (Yl.move rfl) rfl ?_ -- t59
      refine WL.off rfl rfl rfl rfl ?_ -- t60
      refine WL.off rfl rfl rfl rfl ?_ -- t61
      refine WL.off rfl rfl rfl rfl ?_ -- t62
      refine WL.on rfl rfl ?_
      refine WL.y (Yl.pickF rfl rfl) rfl ?_ -- t63
      refine WL.y (Yl.pickF rfl rfl) rfl ?_ -- t64
      refine WL.nil ?_
      refine WC.condF rfl (by first | rfl | (simp; done) | (simp; omega)) ?_
      refine WC.skip ?_
      refine WC.region ?_
      refine WL.y (Yl.add rfl rfl (IntWalk.i64_in _ (by omega))) rfl ?_ -- t65
      refine WL.y (Yl.move rfl) rfl ?_ -- t19
      refine WL.nil ?_
      exact ⟨rfl, j + 1, by omega, by omega, (by repeat (first | exact Sub.nil | refine Sub.cons rfl ?_)), _, (by repeat (first | exact TakeL.nil | (apply TakeL.cons; · repeat (first | exact Take1.head | apply Take1.tail))))⟩
    · refine WL.off rfl rfl rfl rfl ?_ -- t51
      refine WL.off rfl rfl rfl rfl ?_ -- t52
      refine WL.off rfl rfl rfl rfl ?_ -- t53
      refine WL.on rfl rfl ?_
      refine WL.y (Yl.pickF rfl rfl) rfl ?_ -- t54
      refine WL.y (Yl.pickF rfl rfl) rfl ?_ -- t55
      refine WL.y (Yl.move rfl) rfl ?_ -- t56
      refine WL.on rfl rfl ?_
      refine WL.y (Yl.move rfl) rfl ?_ -- t57
      refine WL.on rfl rfl ?_
      refine WL.y (Yl.neq rfl rfl) rfl ?_ -- t58
      refine WL.know (t := 58) (b' := true) rfl (by simp at g50; simp [g50]) ?_
      refine WL.on rfl rfl ?_
      refine WL.y (Yl.move rfl) rfl ?_ -- t59
      refine WL.on rfl rfl ?_
      refine WL.y (Yl.move rfl) rfl ?_ -- t60
      refine WL.on rfl rfl ?_
      refine WL.y (Yl.len un28 rfl) rfl ?_ -- t61
      refine WL.on rfl rfl ?_
      refine WL.y (Yl.neq rfl rfl) rfl ?_ -- t62
      refine WL.know (t := 62) (b' := false) rfl (by simp at g50; simp [g50]) ?_
      refine WL.on rfl rfl ?_
      refine WL.y (Yl.pickT rfl rfl) rfl ?_ -- t63
      refine WL.y (Yl.pickF rfl rfl) rfl ?_ -- t64
      refine WL.nil ?_
      refine WC.condF rfl (by first | rfl | (simp; done) | (simp; omega)) ?_
      refine WC.skip ?_
      refine WC.region ?_
      refine WL.y (Yl.add rfl rfl (IntWalk.i64_in _ (by omega))) rfl ?_ -- t65
      refine WL.y (Yl.move rfl) rfl ?_ -- t19
      refine WL.nil ?_
      exact ⟨rfl, j + 1, by omega, by omega, (by repeat (first | exact Sub.nil | refine Sub.cons rfl ?_)), _, (by repeat (first | exact TakeL.nil | (apply TakeL.cons; · repeat (first | exact Take1.head | apply Take1.tail))))⟩
  · refine WC.exit ?_
    refine WC.seq ?_
    refine WC.region ?_
    refine WL.to (To.buildSlice (vs := [.int .u8 2]) un28 zs5 rfl rfl (by simp [Value.cells]) (by decide) (by decide)) rfl ?_ -- t66
    intro b66
    refine WL.callC (xs := [.tmp 66]) (cap := []) rfl rfl en12 (by repeat (first | exact TakeL.nil | (apply TakeL.cons; · repeat (first | exact Take1.head | apply Take1.tail)))) (fun w hw => newIn_any (.slice (some ⟨b66, 0, none⟩) 1 1) [2] (by decide) w (hw.src (A := []) (RdOf.blk (cs := [.int .u8 2]) (Nat.le_refl _) (by unfold maxLen; omega) (by simp) rfl) (by repeat (first | exact Take1.head | apply Take1.tail))) hw.left.here) rfl ?_ -- t67 hailer/wire.NewIn
    rintro ⟨b67, a67, c67⟩ hc67
    dsimp only at hc67 ⊢
    refine WL.to (To.buildSlice (vs := [.int .u8 1, .int .u8 7]) un28 zs5 rfl rfl (by simp [Value.cells]) (by decide) (by decide)) rfl ?_ -- t68
    intro b68
    refine WL.callC (xs := [.tmp 68]) (cap := []) rfl rfl en12 (by repeat (first | exact TakeL.nil | (apply TakeL.cons; · repeat (first | exact Take1.head | apply Take1.tail)))) (fun w hw => newIn_any (.slice (some ⟨b68, 0, none⟩) 2 2) [1, 7] (by decide) w (hw.src (A := []) (RdOf.blk (cs := [.int .u8 1, .int .u8 7]) (Nat.le_refl _) (by unfold maxLen; omega) (by simp) rfl) (by repeat (first | exact Take1.head | apply Take1.tail))) hw.left.here) rfl ?_ -- t69 hailer/wire.NewIn
    rintro ⟨b69, a69, c69⟩ hc69
    dsimp only at hc69 ⊢
    refine WL.y (Yl.assign rfl) rfl ?_ -- t6
    refine WL.y (Yl.assign rfl) rfl ?_ -- t7
    refine WL.nil ?_
    refine WC.seq ?_
    refine WC.seq ?_
    refine WC.region ?_
    refine WL.y (Yl.move rfl) rfl ?_ -- t70
    refine WL.callC (xs := [.tmp 70]) (cap := []) rfl rfl en21 (by repeat (first | exact TakeL.nil | (apply TakeL.cons; · repeat (first | exact Take1.head | apply Take1.tail)))) (fun w hw => inFlag_any b67 a67 c67 [2] false (ownR (.slice a67 1 c67) 5 1 1 (ints .u8 [2])) RdOf.own hc67 (by1 (by decide)) w hw.left.here) rfl ?_ -- t71 (*hailer/wire.In).Flag
    rintro ⟨a71, c71⟩ -
    refine WL.know (t := 71) (b' := false) rfl (by decide) ?_
    refine WL.y (Yl.move rfl) rfl ?_ -- t72
    refine WL.on rfl rfl ?_
    refine WL.y (Yl.move rfl) rfl ?_ -- t73
    refine WL.on rfl rfl ?_
    refine WL.callC (xs := [.tmp 73]) (cap := []) rfl rfl en16 (by repeat (first | exact TakeL.nil | (apply TakeL.cons; · repeat (first | exact Take1.head | apply Take1.tail)))) (fun w hw => inEnd_any b67 a71 c71 (tkB 1 [2] false) (flW [2] false) w hw.left.here) rfl ?_ -- t74 (*hailer/wire.In).End
    rintro ⟨⟩ -
    refine WL.on rfl rfl ?_
    refine WL.y (Yl.neq rfl rfl) rfl ?_ -- t75
    refine WL.know (t := 75) (b' := false) rfl (by decide) ?_
    refine WL.y (Yl.pickF rfl rfl) rfl ?_ -- t76
    refine WL.y (Yl.move rfl) rfl ?_ -- t77
    refine WL.on rfl rfl ?_
    refine WL.y (Yl.move rfl) rfl ?_ -- t78
    refine WL.on rfl rfl ?_
    refine WL.callC (xs := [.tmp 78]) (cap := []) rfl rfl en21 (by repeat (first | exact TakeL.nil | (apply TakeL.cons; · repeat (first | exact Take1.head | apply Take1.tail)))) (fun w hw => inFlag_any b69 a69 c69 [1, 7] false (ownR (.slice a69 2 c69) 5 1 2 (ints .u8 [1, 7])) RdOf.own hc69 (by2 (by decide) (by decide)) w hw.left.here) rfl ?_ -- t79 (*hailer/wire.In).Flag
    rintro ⟨a79, c79⟩ -
    refine WL.know (t := 79) (b' := true) rfl (by decide) ?_
    refine WL.on rfl rfl ?_
    refine WL.y (Yl.not rfl) rfl ?_ -- t80
    refine WL.y (Yl.pickF rfl rfl) rfl ?_ -- t81
    refine WL.y (Yl.move rfl) rfl ?_ -- t82
    refine WL.on rfl rfl ?_
    refine WL.y (Yl.move rfl) rfl ?_ -- t83
    refine WL.on rfl rfl ?_
    refine WL.callC (xs := [.tmp 83]) (cap := []) rfl rfl en15 (by repeat (first | exact TakeL.nil | (apply TakeL.cons; · repeat (first | exact Take1.head | apply Take1.tail)))) (fun w hw => left_any b69 a79 c79 (tkB 1 [1, 7] false) (flW [1, 7] false) w hw.left.here) rfl ?_ -- t84 (*hailer/wire.In).Left
    rintro ⟨⟩ -
    refine WL.on rfl rfl ?_
    refine WL.y (Yl.neq rfl rfl) rfl ?_ -- t85
    refine WL.know (t := 85) (b' := false) rfl (by decide) ?_
    refine WL.y (Yl.pickF rfl rfl) rfl ?_ -- t86
    refine WL.y (Yl.move rfl) rfl ?_ -- t87
    refine WL.on rfl rfl ?_
    refine WL.y (Yl.move rfl) rfl ?_ -- t88
    refine WL.on rfl rfl ?_
    refine WL.callC (xs := [.tmp 88]) (cap := []) rfl rfl en16 (by repeat (first | exact TakeL.nil | (apply TakeL.cons; · repeat (first | exact Take1.head | apply Take1.tail)))) (fun w hw => inEnd_any b69 a79 c79 (tkB 1 [1, 7] false) (flW [1, 7] false) w hw.left.here) rfl ?_ -- t89 (*hailer/wire.In).End
    rintro ⟨⟩ -
    refine WL.on rfl rfl ?_
    refine WL.y (Yl.neq rfl rfl) rfl ?_ -- t90
    refine WL.know (t := 90) (b' := false) rfl (by decide) ?_
    refine WL.y (Yl.pickF rfl rfl) rfl ?_ -- t91
    refine WL.nil ?_
    refine WC.condF rfl (by first | rfl | (simp; done) | (simp; omega)) ?_
    refine WC.skip ?_
    refine WC.seq ?_
    refine WC.region ?_
    refine WL.y (Yl.assign rfl) rfl ?_ -- t8
    refine WL.nil ?_
    refine WC.seq ?_
    refine WC.region ?_
    refine WL.y (Yl.assign rfl) rfl ?_ -- t9
    refine WL.nil ?_
    refine WC.seq ?_
    refine WC.region ?_
    refine WL.y (Yl.move rfl) rfl ?_ -- t92
    refine WL.y (Yl.build rfl (cs := (kz 0).cells) (fun _ => by kernel_rfl)) rfl ?_ -- t93
    refine WL.y (Yl.build rfl (cs := (kz 1).cells) (fun _ => by kernel_rfl)) rfl ?_ -- t94
    refine WL.y (Yl.build rfl (cs := (kz 2).cells) (fun _ => by kernel_rfl)) rfl ?_ -- t95
    refine WL.y (Yl.build rfl (cs := (kz 3).cells) (fun _ => by kernel_rfl)) rfl ?_ -- t96
    refine WL.y (Yl.build rfl (cs := (kz 4).cells) (fun _ => by kernel_rfl)) rfl ?_ -- t97
    refine WL.y (Yl.build rfl (cs := (kz 5).cells) (fun _ => by kernel_rfl)) rfl ?_ -- t98
    refine WL.y (Yl.build rfl (cs := (kz 6).cells) (fun _ => by kernel_rfl)) rfl ?_ -- t99
    refine WL.to (To.buildSlice (vs := [(kz 0).val, (kz 1).val, (kz 2).val, (kz 3).val, (kz 4).val, (kz 5).val, (kz 6).val]) un22 zs54 rfl rfl (by intro v hv; simp only [List.mem_cons, List.not_mem_nil, or_false] at hv; rcases hv with rfl | rfl | rfl | rfl | rfl | rfl | rfl <;> rfl) (by decide) (by decide)) rfl ?_ -- t100
    intro b100
    refine WL.callC (xs := [.tmp 92, .tmp 100]) (cap := []) rfl rfl en9 (by repeat (first | exact TakeL.nil | (apply TakeL.cons; · repeat (first | exact Take1.head | apply Take1.tail)))) (fun w hw => lput_nil kzs (.slice (some ⟨b100, 0, none⟩) 7 7) kzs_ok w (hw.srcF (A := []) (kz_of b100) (by repeat (first | exact Take1.head | apply Take1.tail))) hw.left.here) rfl ?_ -- t101 hailer/hailerlaw08.put
    rintro ⟨⟩ -
    refine WL.nil ?_
    refine WC.seq ?_
    refine WC.region ?_
    refine WL.y (Yl.move rfl) rfl ?_ -- t103
    refine WL.callC (xs := [.tmp 103]) (cap := []) rfl rfl en10 (by repeat (first | exact TakeL.nil | (apply TakeL.cons; · repeat (first | exact Take1.head | apply Take1.tail)))) (fun w hw => outBytes_nil w hw.left.here) rfl ?_ -- t104 (*hailer/wire.Out).Bytes
    rintro ⟨⟩ -
    refine WL.y (Yl.move rfl) rfl ?_ -- t102
    refine WL.y (Yl.extract rfl rfl) rfl ?_ -- t105
    refine WL.y (Yl.extract rfl rfl) rfl ?_ -- t106
    refine WL.y (Yl.assign rfl) rfl ?_ -- t10
    refine WL.y (Yl.assign rfl) rfl ?_ -- t11
    refine WL.nil ?_
    refine WC.seq ?_
    refine WC.region ?_
    refine WL.y (Yl.move rfl) rfl ?_ -- t107
    refine WL.y (Yl.build rfl (cs := (kz 0).cells) (fun _ => by kernel_rfl)) rfl ?_ -- t108
    refine WL.y (Yl.build rfl (cs := (kz 1).cells) (fun _ => by kernel_rfl)) rfl ?_ -- t109
    refine WL.y (Yl.build rfl (cs := (kz 2).cells) (fun _ => by kernel_rfl)) rfl ?_ -- t110
    refine WL.y (Yl.build rfl (cs := (kz 3).cells) (fun _ => by kernel_rfl)) rfl ?_ -- t111
    refine WL.y (Yl.build rfl (cs := (kz 4).cells) (fun _ => by kernel_rfl)) rfl ?_ -- t112
    refine WL.y (Yl.build rfl (cs := (kz 5).cells) (fun _ => by kernel_rfl)) rfl ?_ -- t113
    refine WL.y (Yl.build rfl (cs := (kz 6).cells) (fun _ => by kernel_rfl)) rfl ?_ -- t114
    refine WL.to (To.buildSlice (vs := [(kz 0).val, (kz 1).val, (kz 2).val, (kz 3).val, (kz 4).val, (kz 5).val, (kz 6).val]) un22 zs54 rfl rfl (by intro v hv; simp only [List.mem_cons, List.not_mem_nil, or_false] at hv; rcases hv with rfl | rfl | rfl | rfl | rfl | rfl | rfl <;> rfl) (by decide) (by decide)) rfl ?_ -- t115
    intro b115
    refine WL.callC (xs := [.tmp 107, .tmp 115]) (cap := []) rfl rfl en13 (by repeat (first | exact TakeL.nil | (apply TakeL.cons; · repeat (first | exact Take1.head | apply Take1.tail)))) (fun w hw => ltake_nil kzs (.slice (some ⟨b115, 0, none⟩) 7 7) kzs_ok (by decide) w (hw.srcF (A := []) (kz_of b115) (by repeat (first | exact Take1.head | apply Take1.tail))) hw.left.here) rfl ?_ -- t116 hailer/hailerlaw08.take
    rintro ⟨a116, c116⟩ -
    refine WL.y (Yl.assign rfl) rfl ?_ -- t12
    refine WL.nil ?_
    refine WC.seq ?_
    refine WC.region ?_
    refine WL.callC (xs := [_]) (cap := []) rfl rfl en8 (by repeat (first | exact TakeL.nil | (apply TakeL.cons; · repeat (first | exact Take1.head | apply Take1.tail)))) (fun w hw => newOut_any 3 w hw.left.here) rfl ?_ -- t117 hailer/wire.NewOut
    intro b117 _
    refine WL.callC (xs := [.tmp 117, _, _, _]) (cap := []) rfl rfl en22 (by repeat (first | exact TakeL.nil | (apply TakeL.cons; · repeat (first | exact Take1.head | apply Take1.tail)))) (fun w hw => putListI_nil b117 (none, 0) w hw.left.here) rfl ?_ -- t118 hailer/wire.PutList[int]
    rintro ⟨⟩ -
    refine WL.nil ?_
    refine WC.seq ?_
    refine WC.region ?_
    refine WL.to (To.buildSlice (vs := [.int .u8 0, .int .u8 0]) un28 zs5 rfl rfl (by simp [Value.cells]) (by decide) (by decide)) rfl ?_ -- t119
    intro b119
    refine WL.callC (xs := [.tmp 119]) (cap := []) rfl rfl en12 (by repeat (first | exact TakeL.nil | (apply TakeL.cons; · repeat (first | exact Take1.head | apply Take1.tail)))) (fun w hw => newIn_any (.slice (some ⟨b119, 0, none⟩) 2 2) [0, 0] (by decide) w (hw.src (A := []) (RdOf.blk (cs := [.int .u8 0, .int .u8 0]) (Nat.le_refl _) (by unfold maxLen; omega) (by simp) rfl) (by repeat (first | exact Take1.head | apply Take1.tail))) hw.left.here) rfl ?_ -- t120 hailer/wire.NewIn
    rintro ⟨b120, a120, c120⟩ hc120
    dsimp only at hc120 ⊢
    refine WL.callC (xs := [.tmp 120, _, _]) (cap := []) rfl rfl en23 (by repeat (first | exact TakeL.nil | (apply TakeL.cons; · repeat (first | exact Take1.head | apply Take1.tail)))) (fun w hw => takeListI_nil b120 a120 c120 [0, 0] false (ownR (.slice a120 2 c120) 5 1 2 (ints .u8 [0, 0])) RdOf.own hc120 (by2 (by decide) (by decide)) w hw.left.here) rfl ?_ -- t121 hailer/wire.TakeList[int]
    rintro ⟨⟩ -
    refine WL.y (Yl.assign rfl) rfl ?_ -- t13
    refine WL.nil ?_
    refine WC.seq ?_
    refine WC.region ?_
    refine WL.y (Yl.move rfl) rfl ?_ -- t122
    refine WL.y (Yl.eql rfl rfl) rfl ?_ -- t123
    refine WL.know (t := 123) (b' := true) rfl (by first | rfl | (simp; done) | (simp; omega)) ?_
    refine WL.y (Yl.move rfl) rfl ?_ -- t124
    refine WL.on rfl rfl ?_
    refine WL.y (Yl.move rfl) rfl ?_ -- t125
    refine WL.on rfl rfl ?_
    refine WL.y (Yl.len un22 rfl) rfl ?_ -- t126
    refine WL.on rfl rfl ?_
    refine WL.y (Yl.eql rfl rfl) rfl ?_ -- t127
    refine WL.know (t := 127) (b' := true) rfl (by first | rfl | (simp; done) | (simp; omega)) ?_
    refine WL.y (Yl.pickT rfl rfl) rfl ?_ -- t128
    refine WL.y (Yl.move rfl) rfl ?_ -- t129
    refine WL.on rfl rfl ?_
    refine WL.y (Yl.move rfl) rfl ?_ -- t130
    refine WL.on rfl rfl ?_
    refine WL.y (Yl.index (j := 2) un22 sz54 rfl rfl (Reads.of RdOf.own (by repeat (first | exact Take1.head | apply Take1.tail))) rfl (by omega)) rfl ?_ -- t131
    refine WL.on rfl rfl ?_
    refine WL.y (Yl.fieldV fo54_1 rfl (Reads.of (r := ownR (.slice a116 7 c116) 54 5 7 (vcs Fd.val (kzs.map zF))) RdOf.own (by repeat (first | exact Take1.head | apply Take1.tail))) (by decide)) rfl ?_
    refine WL.on rfl rfl ?_
    refine WL.y (Yl.loadO (u := .int .u64 0) on51 rfl (Reads.of (r := ownR (.slice a116 7 c116) 54 5 7 (vcs Fd.val (kzs.map zF))) RdOf.own (by repeat (first | exact Take1.head | apply Take1.tail))) rfl) rfl ?_
    refine WL.on rfl rfl ?_
    refine WL.y (Yl.eql rfl rfl) rfl ?_ -- t134
    refine WL.know (t := 134) (b' := true) rfl (by first | rfl | (simp; done) | (simp; omega)) ?_
    refine WL.y (Yl.pickT rfl rfl) rfl ?_ -- t135
    refine WL.y (Yl.move rfl) rfl ?_ -- t136
    refine WL.on rfl rfl ?_
    refine WL.y (Yl.move rfl) rfl ?_ -- t137
    refine WL.on rfl rfl ?_
    refine WL.callC (xs := [.tmp 137]) (cap := []) rfl rfl en15 (by repeat (first | exact TakeL.nil | (apply TakeL.cons; · repeat (first | exact Take1.head | apply Take1.tail)))) (fun w hw => left_nil w hw.left.here) rfl ?_ -- t138 (*hailer/wire.In).Left
    rintro ⟨⟩ -
    refine WL.on rfl rfl ?_
    refine WL.y (Yl.eql rfl rfl) rfl ?_ -- t139
    refine WL.know (t := 139) (b' := true) rfl (by first | rfl | (simp; done) | (simp; omega)) ?_
    refine WL.y (Yl.pickT rfl rfl) rfl ?_ -- t140
    refine WL.y (Yl.move rfl) rfl ?_ -- t141
    refine WL.on rfl rfl ?_
    refine WL.y (Yl.move rfl) rfl ?_ -- t142
    refine WL.on rfl rfl ?_
    refine WL.callC (xs := [.tmp 142]) (cap := []) rfl rfl en16 (by repeat (first | exact TakeL.nil | (apply TakeL.cons; · repeat (first | exact Take1.head | apply Take1.tail)))) (fun w hw => end_nil w hw.left.here) rfl ?_ -- t143 (*hailer/wire.In).End
    rintro ⟨⟩ -
    refine WL.on rfl rfl ?_
    refine WL.y (Yl.eql rfl rfl) rfl ?_ -- t144
    refine WL.know (t := 144) (b' := true) rfl (by first | rfl | (simp; done) | (simp; omega)) ?_
    refine WL.y (Yl.pickT rfl rfl) rfl ?_ -- t145
    refine WL.y (Yl.move rfl) rfl ?_ -- t146
    refine WL.on rfl rfl ?_
    refine WL.y (Yl.move rfl) rfl ?_ -- t147
    refine WL.on rfl rfl ?_
    refine WL.y (Yl.len un56 rfl) rfl ?_ -- t148
    refine WL.on rfl rfl ?_
    refine WL.y (Yl.eql rfl rfl) rfl ?_ -- t149
    refine WL.know (t := 149) (b' := true) rfl (by first | rfl | (simp; done) | (simp; omega)) ?_
    refine WL.y (Yl.pickT rfl rfl) rfl ?_ -- t150
    refine WL.y (Yl.assign rfl) rfl ?_ -- t0
    refine WL.nil ?_
    refine WC.ret ?_
    repeat (first | (with_reducible refine peelT ?_) | (with_reducible refine peelB ?_) | (with_reducible refine peelTX ?_) | (with_reducible refine peelBX ?_) | (with_reducible refine peelBN ?_) | (with_reducible refine peelBO rfl ?_))
    exact ret1 (.inr rfl) Try.results6 rfl fun w' h => ⟨(), trivial, rfl, h.sub (by repeat (first | exact TakeL.nil | (apply TakeL.cons; · repeat (first | exact Take1.head | apply Take1.tail))))⟩
end Go.Proofs.Ytahkaepmfnmhcaa
