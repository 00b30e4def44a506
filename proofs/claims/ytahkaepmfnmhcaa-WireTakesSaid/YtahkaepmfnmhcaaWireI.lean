/- Fields taken: the law's walk. -/
import Derived.Test.YtahkaepmfnmhcaaWireH
namespace Go.Proofs.Ytahkaepmfnmhcaa
open Go Go.RowKit

set_option maxRecDepth 100000 in
theorem ltake_any (fs : List Fd) (v : Value) (hok : ∀ f ∈ fs, f.ok) (hfl : fs.length ≤ 100000) (b : Nat) (ao : Option Addr) (cap : Nat) (B : List Int) (W : Bool) (r : Res) (hr : RdOf r (.slice ao B.length cap) 1 B.length (ints .u8 B)) (hc : B.length ≤ cap) (hB : Bytes B) (w : World)
    (hx : FdS w (fpL [inR b (.slice ao B.length cap) W, r]) v fs) (hw : OK w (fpL [inR b (.slice ao B.length cap) W, r]) [inR b (.slice ao B.length cap) W, r] w) :
    Fn Try.prog 13 [.pointer (some ⟨b, 0, none⟩), v] [inR b (.slice ao B.length cap) W, r] w
      (fun x : (Option Addr × Nat) × (Option Addr × Nat) × List Fd × Res => FdOf x.2.2.2 (.slice x.2.1.1 x.2.2.1.length x.2.1.2) x.2.2.1 ∧ x.2.2.1.map Fd.norm = (tks fs B W).1)
      (fun x => .slice x.2.1.1 x.2.2.1.length x.2.1.2) (fun x => [inR b (.slice x.1.1 (tks fs B W).2.1.length x.1.2) (tks fs B W).2.2, x.2.2.2]) := by
  obtain ⟨al, cl, rfl, hcl, hml⟩ := hx.rows.rd.form
  unfold maxLen at hml
  refine enterF Try.func13 rfl Try.ntmps13 rfl hw ?_
  refine WC.seq ?_
  refine WC.region ?_
  refine WL.y (Yl.assign rfl) rfl ?_ -- t4
  refine WL.nil ?_
  refine WC.seq ?_
  refine WC.region ?_
  refine WL.y (Yl.assign rfl) rfl ?_ -- t5
  refine WL.nil ?_
  refine WC.seq ?_
  refine WC.seq ?_
  refine WC.region ?_
  refine WL.y (Yl.move rfl) rfl ?_ -- t9
  refine WL.y (Yl.len un22 rfl) rfl ?_ -- t10
  refine WL.y (Yl.move rfl) rfl ?_ -- t11
  refine WL.nil ?_
  refine WC.block ?_
  refine WC.view (fun w h => (h.addNil 54 5).addNone) ?_
  refine WC.loop (α := Nat × (Option Addr × Nat) × (Option Addr × Nat) × List Fd × Res) (fun p => [(0, .pointer (some ⟨b, 0, none⟩)), (4, .slice none 0 0), (5, .slice p.2.2.1.1 p.2.2.2.1.length p.2.2.1.2), (9, .slice al fs.length cl), (10, .int .i64 (fs.length : Int)), (11, .int .i64 (p.1 : Int))]) (fun p => [ownR (.slice p.2.2.1.1 p.2.2.2.1.length p.2.2.1.2) 54 5 p.2.2.2.1.length (vcs Fd.val p.2.2.2.1), inR b (.slice p.2.1.1 (tks (fs.take p.1) B W).2.1.length p.2.1.2) (tks (fs.take p.1) B W).2.2, r, p.2.2.2.2]) (fun p => p.1 ≤ fs.length ∧ p.2.2.2.1.map Fd.norm = (tks (fs.take p.1) B W).1 ∧ RdOf r (.slice p.2.1.1 (tks (fs.take p.1) B W).2.1.length p.2.1.2) 1 (tks (fs.take p.1) B W).2.1.length (ints .u8 (tks (fs.take p.1) B W).2.1) ∧ (tks (fs.take p.1) B W).2.1.length ≤ p.2.1.2 ∧ ∀ f ∈ p.2.2.2.1, RdOf (allR [r, p.2.2.2.2]) (.slice f.ba f.b.length f.bc) 1 f.b.length (ints .u8 f.b) ∧ RdOf (allR [r, p.2.2.2.2]) (.slice f.la f.l.length f.lc) 1 f.l.length (ints .u32 f.l)) (fun p => fs.length - p.1) (0, (ao, cap), (none, 0), [], allR []) ⟨Nat.zero_le _, rfl, hr, hc, (fun f hf => by cases hf)⟩ ⟨(by repeat (first | exact Sub.nil | refine Sub.cons rfl ?_)), _, (by repeat (first | exact TakeL.nil | (apply TakeL.cons; · repeat (first | exact Take1.head | apply Take1.tail))))⟩ ?_
  rintro ⟨j, ⟨a1, c1⟩, ⟨ao2, co2⟩, gs, G⟩ ⟨hj, hgs, r1, hc1, hp⟩
  dsimp only at hj hgs r1 hc1 hp ⊢
  refine WC.seq ?_
  refine WC.region ?_
  refine WL.y (Yl.lss rfl rfl) rfl ?_ -- t12
  refine WL.nil ?_
  refine WC.seq ?_
  refine WC.condD rfl (fun g12 => ?_) (fun g12 => ?_)
  · refine WC.skip ?_
    refine WC.seq ?_
    refine WC.block ?_
    refine WC.seq ?_
    refine WC.region ?_
    obtain ⟨f, hfj⟩ : ∃ f, fs[j]? = some f := ⟨_, List.getElem?_eq_getElem (by omega)⟩
    have hfm := List.mem_of_getElem? hfj
    have hfo := hok f hfm
    have hgl0 : gs.length = j := by have := congrArg List.length hgs; rw [List.length_map, tks_len, List.length_take] at this; omega
    have hk1 := tks_bytes (fs.take j) W hB
    have hq4 : tks (fs.take (j + 1)) B W = ((tks (fs.take j) B W).1 ++ [(tkF f (tks (fs.take j) B W).2.1 (tks (fs.take j) B W).2.2).1], (tkF f (tks (fs.take j) B W).2.1 (tks (fs.take j) B W).2.2).2) := by rw [← take_snoc _ _ _ hfj, tks_snoc]
    generalize tks (fs.take j) B W = s at hgs r1 hc1 hk1 hq4 ⊢
    obtain ⟨s1, B1, W1⟩ := s
    dsimp only at hgs r1 hc1 hk1 hq4 ⊢
    refine WL.y (Yl.index un22 sz54 rfl rfl (Reads.s hx.rows) rfl (by omega)) rfl ?_ -- t13
    refine WL.y (Yl.loadV (j := j) (u := f) fdV fdAll rfl (Reads.s hx.rows) rfl hfj) rfl ?_
    refine WL.to (To.alloc (cs := [.int .u8 0, .int .u64 0, .slice none 0 0, .slice none 0 0, .int .i64 0]) zr54 rfl) rfl ?_ -- t7
    intro b7
    refine WL.sto (Sto.agg sz54 rfl rfl (by repeat (first | exact Take1.head | apply Take1.tail)) f.ones rfl (by rfl) (by rfl)) (fun _ h => nomatch h) ?_ -- st 1
    refine WL.nil ?_
    refine WC.seq ?_
    refine WC.region ?_
    refine WL.y (Yl.field fo54_0 rfl) rfl ?_ -- t15
    refine WL.y (Yl.load on5 rfl (by repeat (first | exact Take1.head | apply Take1.tail)) (by rfl)) rfl ?_ -- t16
    refine WL.y (Yl.field fo54_4 rfl) rfl ?_ -- t17
    refine WL.y (Yl.load on3 rfl (by repeat (first | exact Take1.head | apply Take1.tail)) (by rfl)) rfl ?_ -- t18
    refine WL.y (Yl.build rfl (cs := (Fd.mk f.kind 0 none 0 [] none 0 [] f.most).cells) (fun _ => by kernel_rfl)) rfl ?_ -- t19
    refine WL.to (To.alloc (cs := [.int .u8 0, .int .u64 0, .slice none 0 0, .slice none 0 0, .int .i64 0]) zr54 rfl) rfl ?_ -- t8
    intro b8
    refine WL.sto (Sto.agg (cs' := (Fd.mk f.kind 0 none 0 [] none 0 [] f.most).cells) sz54 rfl rfl (by repeat (first | exact Take1.head | apply Take1.tail)) (Fd.ones _) rfl (by rfl) rfl) (fun _ h => nomatch h) ?_
    refine WL.nil ?_
    refine WC.seq ?_
    refine WC.seq ?_
    refine WC.region ?_
    refine WL.y (Yl.field fo54_0 rfl) rfl ?_ -- t20
    refine WL.y (Yl.load on5 rfl (by repeat (first | exact Take1.head | apply Take1.tail)) (by rfl)) rfl ?_ -- t21
    refine WL.nil ?_
    refine WC.block ?_
    refine WC.seq ?_
    refine WC.region ?_
    refine WL.y (Yl.eql rfl rfl) rfl ?_ -- t23
    refine WL.y (Yl.assign rfl) rfl ?_ -- t22
    refine WL.nil ?_
    refine WC.condD rfl (fun g22 => ?_) (fun g22 => ?_)
    · refine WC.region ?_
      refine WL.y (Yl.move rfl) rfl ?_ -- t24
      refine WL.callC (xs := [.tmp 24]) (cap := []) rfl rfl en30 (by repeat (first | exact TakeL.nil | (apply TakeL.cons; · repeat (first | exact Take1.head | apply Take1.tail)))) (fun w hw => inU8_any b a1 c1 B1 W1 r r1 hc1 hk1 w hw.left.here) rfl ?_ -- t25 (*hailer/wire.In).U8
      rintro ⟨a2, c2⟩ ⟨r2, hc2⟩
      dsimp only at r2 hc2 ⊢
      have hv := val1 hk1 W1
      refine WL.y (Yl.conv un5 un51 rfl (u64_in _ (by omega))) rfl ?_ -- t26
      refine WL.y (Yl.field fo54_1 rfl) rfl ?_ -- t27
      refine WL.sto (Sto.one (cs' := (Fd.mk f.kind (val (tkR 1 B1 W1)) none 0 [] none 0 [] f.most).cells) sz51 rfl rfl (by repeat (first | exact Take1.head | apply Take1.tail)) rfl (by rfl) rfl) (fun _ h => nomatch h) ?_
      refine WL.nil ?_
      have hst : tkF f B1 W1 = ((Fd.mk f.kind (val (tkR 1 B1 W1)) none 0 [] none 0 [] f.most).norm, (tkB 1 B1 W1), (tkW 1 B1 W1)) := by unfold tkF; rw [if_pos (by omega)]; rfl
      obtain ⟨g, hg⟩ : ∃ g : Fd, (Fd.mk f.kind (val (tkR 1 B1 W1)) none 0 [] none 0 [] f.most) = g := ⟨_, rfl⟩
      obtain ⟨G2, hG2⟩ : ∃ x, x = G := ⟨_, rfl⟩
      have hmono : ∀ w, (allR [r, G2]).ok w → (allR [r, G]).ok w := fun w h => by rw [hG2] at h; exact h
      have hgb : RdOf (allR [r, G2]) (.slice g.ba g.b.length g.bc) 1 g.b.length (ints .u8 g.b) := by rw [← hg]; exact RdOf.nothing
      have hgl : RdOf (allR [r, G2]) (.slice g.la g.l.length g.lc) 1 g.l.length (ints .u32 g.l) := by rw [← hg]; exact RdOf.nothing
      rw [hg] at hst ⊢
      subst hG2
      obtain ⟨B2, hB2⟩ : ∃ x, (tkB 1 B1 W1) = x := ⟨_, rfl⟩
      obtain ⟨W2, hW2⟩ : ∃ x, (tkW 1 B1 W1) = x := ⟨_, rfl⟩
      rw [hB2, hW2] at hst ⊢
      rw [hB2] at r2 hc2
      refine WC.region ?_
      refine WL.y (Yl.move rfl) rfl ?_ -- t66
      refine WL.y (Yl.loadN ag54 rfl (by repeat (first | exact Take1.head | apply Take1.tail)) (by rfl) (show _ = g.cells from rfl)) rfl ?_ -- t67
      refine WL.to (To.buildSlice (vs := [g.val]) un22 zs54 rfl rfl (by intro v hv; rw [List.mem_singleton.1 hv]; rfl) (by decide) (by decide)) rfl ?_ -- t68
      intro b68
      refine WL.to (To.append sl22 rfl rfl (by repeat (first | exact Take1.head | apply Take1.tail)) (Reads.of (RdOf.blk (size := 5) (n := 1) (cs := flat [g.val]) (cs' := g.cells) (Nat.le_refl _) (by unfold maxLen; omega) (Nat.le_refl _) rfl) (by repeat (first | exact Take1.head | apply Take1.tail))) g.ones (show gs.length + 1 = (gs ++ [g]).length by simp) (show vcs Fd.val gs ++ g.cells = vcs Fd.val (gs ++ [g]) by rw [vcs_app, vcs_one]; rfl) (by simp; unfold maxLen; omega) (by simp; omega)) rfl ?_ -- t69
      rintro ⟨⟨ao69, c69⟩, hc69⟩
      dsimp only at hc69 ⊢
      refine WL.y (Yl.assign rfl) rfl ?_ -- t5
      refine WL.nil ?_
      refine WC.region ?_
      refine WL.y (Yl.add rfl rfl (IntWalk.i64_in _ (by omega))) rfl ?_ -- t70
      refine WL.y (Yl.move rfl) rfl ?_ -- t11
      refine WL.nil ?_
      have hq5 : tks (fs.take (j + 1)) B W = (s1 ++ [g.norm], B2, W2) := by rw [hq4, hst]
      refine ⟨rfl, (j + 1, (a2, c2), (ao69, c69), gs ++ [g], G2), ⟨by dsimp only; omega, by dsimp only; rw [hq5, List.map_append, hgs]; rfl, by dsimp only; rw [hq5]; exact r2, by dsimp only; rw [hq5]; exact hc2, fun f' hf' => ?_⟩, by dsimp only; omega, (by repeat (first | exact Sub.nil | refine Sub.cons rfl ?_)), _, (by dsimp only; rw [hq5]; exact (by repeat (first | exact TakeL.nil | (apply TakeL.cons; · repeat (first | exact Take1.head | apply Take1.tail)))))⟩
      dsimp only at hf' ⊢
      rcases List.mem_append.1 hf' with hf' | hf'
      · exact ⟨(hp f' hf').1.mono hmono, (hp f' hf').2.mono hmono⟩
      · rw [List.mem_singleton.1 hf']; exact ⟨hgb, hgl⟩
    · refine WC.seq ?_
      refine WC.region ?_
      refine WL.y (Yl.eql rfl rfl) rfl ?_ -- t29
      refine WL.y (Yl.assign rfl) rfl ?_ -- t28
      refine WL.nil ?_
      refine WC.condD rfl (fun g28 => ?_) (fun g28 => ?_)
      · refine WC.region ?_
        refine WL.y (Yl.move rfl) rfl ?_ -- t30
        refine WL.callC (xs := [.tmp 30]) (cap := []) rfl rfl en31 (by repeat (first | exact TakeL.nil | (apply TakeL.cons; · repeat (first | exact Take1.head | apply Take1.tail)))) (fun w hw => inU32_any b a1 c1 B1 W1 r r1 hc1 hk1 w hw.left.here) rfl ?_ -- t31 (*hailer/wire.In).U32
        rintro ⟨a2, c2⟩ ⟨r2, hc2⟩
        dsimp only at r2 hc2 ⊢
        have hv := val_range (hk1.tkR 4 W1)
        have hv2 := pow256 (n := (tkR 4 B1 W1).length) (by have := tkR_len 4 B1 W1; omega)
        refine WL.y (Yl.conv un49 un51 rfl (u64_in _ (by omega))) rfl ?_ -- t32
        refine WL.y (Yl.field fo54_1 rfl) rfl ?_ -- t33
        refine WL.sto (Sto.one (cs' := (Fd.mk f.kind (val (tkR 4 B1 W1)) none 0 [] none 0 [] f.most).cells) sz51 rfl rfl (by repeat (first | exact Take1.head | apply Take1.tail)) rfl (by rfl) rfl) (fun _ h => nomatch h) ?_
        refine WL.nil ?_
        have hst : tkF f B1 W1 = ((Fd.mk f.kind (val (tkR 4 B1 W1)) none 0 [] none 0 [] f.most).norm, (tkB 4 B1 W1), (tkW 4 B1 W1)) := by unfold tkF; rw [if_neg (by omega), if_pos (by omega)]; rfl
        obtain ⟨g, hg⟩ : ∃ g : Fd, (Fd.mk f.kind (val (tkR 4 B1 W1)) none 0 [] none 0 [] f.most) = g := ⟨_, rfl⟩
        obtain ⟨G2, hG2⟩ : ∃ x, x = G := ⟨_, rfl⟩
        have hmono : ∀ w, (allR [r, G2]).ok w → (allR [r, G]).ok w := fun w h => by rw [hG2] at h; exact h
        have hgb : RdOf (allR [r, G2]) (.slice g.ba g.b.length g.bc) 1 g.b.length (ints .u8 g.b) := by rw [← hg]; exact RdOf.nothing
        have hgl : RdOf (allR [r, G2]) (.slice g.la g.l.length g.lc) 1 g.l.length (ints .u32 g.l) := by rw [← hg]; exact RdOf.nothing
        rw [hg] at hst ⊢
        subst hG2
        obtain ⟨B2, hB2⟩ : ∃ x, (tkB 4 B1 W1) = x := ⟨_, rfl⟩
        obtain ⟨W2, hW2⟩ : ∃ x, (tkW 4 B1 W1) = x := ⟨_, rfl⟩
        rw [hB2, hW2] at hst ⊢
        rw [hB2] at r2 hc2
        refine WC.region ?_
        refine WL.y (Yl.move rfl) rfl ?_ -- t66
        refine WL.y (Yl.loadN ag54 rfl (by repeat (first | exact Take1.head | apply Take1.tail)) (by rfl) (show _ = g.cells from rfl)) rfl ?_ -- t67
        refine WL.to (To.buildSlice (vs := [g.val]) un22 zs54 rfl rfl (by intro v hv; rw [List.mem_singleton.1 hv]; rfl) (by decide) (by decide)) rfl ?_ -- t68
        intro b68
        refine WL.to (To.append sl22 rfl rfl (by repeat (first | exact Take1.head | apply Take1.tail)) (Reads.of (RdOf.blk (size := 5) (n := 1) (cs := flat [g.val]) (cs' := g.cells) (Nat.le_refl _) (by unfold maxLen; omega) (Nat.le_refl _) rfl) (by repeat (first | exact Take1.head | apply Take1.tail))) g.ones (show gs.length + 1 = (gs ++ [g]).length by simp) (show vcs Fd.val gs ++ g.cells = vcs Fd.val (gs ++ [g]) by rw [vcs_app, vcs_one]; rfl) (by simp; unfold maxLen; omega) (by simp; omega)) rfl ?_ -- t69
        rintro ⟨⟨ao69, c69⟩, hc69⟩
        dsimp only at hc69 ⊢
        refine WL.y (Yl.assign rfl) rfl ?_ -- t5
        refine WL.nil ?_
        refine WC.region ?_
        refine WL.y (Yl.add rfl rfl (IntWalk.i64_in _ (by omega))) rfl ?_ -- t70
        refine WL.y (Yl.move rfl) rfl ?_ -- t11
        refine WL.nil ?_
        have hq5 : tks (fs.take (j + 1)) B W = (s1 ++ [g.norm], B2, W2) := by rw [hq4, hst]
        refine ⟨rfl, (j + 1, (a2, c2), (ao69, c69), gs ++ [g], G2), ⟨by dsimp only; omega, by dsimp only; rw [hq5, List.map_append, hgs]; rfl, by dsimp only; rw [hq5]; exact r2, by dsimp only; rw [hq5]; exact hc2, fun f' hf' => ?_⟩, by dsimp only; omega, (by repeat (first | exact Sub.nil | refine Sub.cons rfl ?_)), _, (by dsimp only; rw [hq5]; exact (by repeat (first | exact TakeL.nil | (apply TakeL.cons; · repeat (first | exact Take1.head | apply Take1.tail)))))⟩
        dsimp only at hf' ⊢
        rcases List.mem_append.1 hf' with hf' | hf'
        · exact ⟨(hp f' hf').1.mono hmono, (hp f' hf').2.mono hmono⟩
        · rw [List.mem_singleton.1 hf']; exact ⟨hgb, hgl⟩
      · refine WC.seq ?_
        refine WC.region ?_
        refine WL.y (Yl.eql rfl rfl) rfl ?_ -- t35
        refine WL.y (Yl.assign rfl) rfl ?_ -- t34
        refine WL.nil ?_
        refine WC.condD rfl (fun g34 => ?_) (fun g34 => ?_)
        · refine WC.region ?_
          refine WL.y (Yl.move rfl) rfl ?_ -- t36
          refine WL.callC (xs := [.tmp 36]) (cap := []) rfl rfl en32 (by repeat (first | exact TakeL.nil | (apply TakeL.cons; · repeat (first | exact Take1.head | apply Take1.tail)))) (fun w hw => inU64_any b a1 c1 B1 W1 r r1 hc1 hk1 w hw.left.here) rfl ?_ -- t37 (*hailer/wire.In).U64
          rintro ⟨a2, c2⟩ ⟨r2, hc2⟩
          dsimp only at r2 hc2 ⊢
          refine WL.y (Yl.field fo54_1 rfl) rfl ?_ -- t38
          refine WL.sto (Sto.one (cs' := (Fd.mk f.kind (val (tkR 8 B1 W1)) none 0 [] none 0 [] f.most).cells) sz51 rfl rfl (by repeat (first | exact Take1.head | apply Take1.tail)) rfl (by rfl) rfl) (fun _ h => nomatch h) ?_
          refine WL.nil ?_
          have hst : tkF f B1 W1 = ((Fd.mk f.kind (val (tkR 8 B1 W1)) none 0 [] none 0 [] f.most).norm, (tkB 8 B1 W1), (tkW 8 B1 W1)) := by unfold tkF; rw [if_neg (by omega), if_neg (by omega), if_pos (by omega)]; rfl
          obtain ⟨g, hg⟩ : ∃ g : Fd, (Fd.mk f.kind (val (tkR 8 B1 W1)) none 0 [] none 0 [] f.most) = g := ⟨_, rfl⟩
          obtain ⟨G2, hG2⟩ : ∃ x, x = G := ⟨_, rfl⟩
          have hmono : ∀ w, (allR [r, G2]).ok w → (allR [r, G]).ok w := fun w h => by rw [hG2] at h; exact h
          have hgb : RdOf (allR [r, G2]) (.slice g.ba g.b.length g.bc) 1 g.b.length (ints .u8 g.b) := by rw [← hg]; exact RdOf.nothing
          have hgl : RdOf (allR [r, G2]) (.slice g.la g.l.length g.lc) 1 g.l.length (ints .u32 g.l) := by rw [← hg]; exact RdOf.nothing
          rw [hg] at hst ⊢
          subst hG2
          obtain ⟨B2, hB2⟩ : ∃ x, (tkB 8 B1 W1) = x := ⟨_, rfl⟩
          obtain ⟨W2, hW2⟩ : ∃ x, (tkW 8 B1 W1) = x := ⟨_, rfl⟩
          rw [hB2, hW2] at hst ⊢
          rw [hB2] at r2 hc2
          refine WC.region ?_
          refine WL.y (Yl.move rfl) rfl ?_ -- t66
          refine WL.y (Yl.loadN ag54 rfl (by repeat (first | exact Take1.head | apply Take1.tail)) (by rfl) (show _ = g.cells from rfl)) rfl ?_ -- t67
          refine WL.to (To.buildSlice (vs := [g.val]) un22 zs54 rfl rfl (by intro v hv; rw [List.mem_singleton.1 hv]; rfl) (by decide) (by decide)) rfl ?_ -- t68
          intro b68
          refine WL.to (To.append sl22 rfl rfl (by repeat (first | exact Take1.head | apply Take1.tail)) (Reads.of (RdOf.blk (size := 5) (n := 1) (cs := flat [g.val]) (cs' := g.cells) (Nat.le_refl _) (by unfold maxLen; omega) (Nat.le_refl _) rfl) (by repeat (first | exact Take1.head | apply Take1.tail))) g.ones (show gs.length + 1 = (gs ++ [g]).length by simp) (show vcs Fd.val gs ++ g.cells = vcs Fd.val (gs ++ [g]) by rw [vcs_app, vcs_one]; rfl) (by simp; unfold maxLen; omega) (by simp; omega)) rfl ?_ -- t69
          rintro ⟨⟨ao69, c69⟩, hc69⟩
          dsimp only at hc69 ⊢
          refine WL.y (Yl.assign rfl) rfl ?_ -- t5
          refine WL.nil ?_
          refine WC.region ?_
          refine WL.y (Yl.add rfl rfl (IntWalk.i64_in _ (by omega))) rfl ?_ -- t70
          refine WL.y (Yl.move rfl) rfl ?_ -- t11
          refine WL.nil ?_
          have hq5 : tks (fs.take (j + 1)) B W = (s1 ++ [g.norm], B2, W2) := by rw [hq4, hst]
          refine ⟨rfl, (j + 1, (a2, c2), (ao69, c69), gs ++ [g], G2), ⟨by dsimp only; omega, by dsimp only; rw [hq5, List.map_append, hgs]; rfl, by dsimp only; rw [hq5]; exact r2, by dsimp only; rw [hq5]; exact hc2, fun f' hf' => ?_⟩, by dsimp only; omega, (by repeat (first | exact Sub.nil | refine Sub.cons rfl ?_)), _, (by dsimp only; rw [hq5]; exact (by repeat (first | exact TakeL.nil | (apply TakeL.cons; · repeat (first | exact Take1.head | apply Take1.tail)))))⟩
          dsimp only at hf' ⊢
          rcases List.mem_append.1 hf' with hf' | hf'
          · exact ⟨(hp f' hf').1.mono hmono, (hp f' hf').2.mono hmono⟩
          · rw [List.mem_singleton.1 hf']; exact ⟨hgb, hgl⟩
        · refine WC.seq ?_
          refine WC.region ?_
          refine WL.y (Yl.eql rfl rfl) rfl ?_ -- t40
          refine WL.y (Yl.assign rfl) rfl ?_ -- t39
          refine WL.nil ?_
          refine WC.condD rfl (fun g39 => ?_) (fun g39 => ?_)
          · refine WC.seq ?_
            refine WC.region ?_
            refine WL.y (Yl.move rfl) rfl ?_ -- t41
            refine WL.callC (xs := [.tmp 41]) (cap := []) rfl rfl en21 (by repeat (first | exact TakeL.nil | (apply TakeL.cons; · repeat (first | exact Take1.head | apply Take1.tail)))) (fun w hw => inFlag_any b a1 c1 B1 W1 r r1 hc1 hk1 w hw.left.here) rfl ?_ -- t42 (*hailer/wire.In).Flag
            rintro ⟨a2, c2⟩ ⟨r2, hc2⟩
            dsimp only at r2 hc2 ⊢
            refine WL.nil ?_
            refine WC.cond rfl (fun g42 => ?_) (fun g42 => ?_)
            · refine WC.region ?_
              refine WL.y (Yl.field fo54_1 rfl) rfl ?_ -- t43
              refine WL.sto (Sto.one (cs' := (Fd.mk f.kind 1 none 0 [] none 0 [] f.most).cells) sz51 rfl rfl (by repeat (first | exact Take1.head | apply Take1.tail)) rfl (by rfl) rfl) (fun _ h => nomatch h) ?_
              refine WL.nil ?_
              have hst : tkF f B1 W1 = ((Fd.mk f.kind 1 none 0 [] none 0 [] f.most).norm, (tkB 1 B1 W1), (flW B1 W1)) := by unfold tkF; rw [if_neg (by omega), if_neg (by omega), if_neg (by omega), if_pos (by omega), if_pos g42]; rfl
              obtain ⟨g, hg⟩ : ∃ g : Fd, (Fd.mk f.kind 1 none 0 [] none 0 [] f.most) = g := ⟨_, rfl⟩
              obtain ⟨G2, hG2⟩ : ∃ x, x = G := ⟨_, rfl⟩
              have hmono : ∀ w, (allR [r, G2]).ok w → (allR [r, G]).ok w := fun w h => by rw [hG2] at h; exact h
              have hgb : RdOf (allR [r, G2]) (.slice g.ba g.b.length g.bc) 1 g.b.length (ints .u8 g.b) := by rw [← hg]; exact RdOf.nothing
              have hgl : RdOf (allR [r, G2]) (.slice g.la g.l.length g.lc) 1 g.l.length (ints .u32 g.l) := by rw [← hg]; exact RdOf.nothing
              rw [hg] at hst ⊢
              subst hG2
              obtain ⟨B2, hB2⟩ : ∃ x, (tkB 1 B1 W1) = x := ⟨_, rfl⟩
              obtain ⟨W2, hW2⟩ : ∃ x, (flW B1 W1) = x := ⟨_, rfl⟩
              rw [hB2, hW2] at hst ⊢
              rw [hB2] at r2 hc2
              refine WC.region ?_
              refine WL.y (Yl.move rfl) rfl ?_ -- t66
              refine WL.y (Yl.loadN ag54 rfl (by repeat (first | exact Take1.head | apply Take1.tail)) (by rfl) (show _ = g.cells from rfl)) rfl ?_ -- t67
              refine WL.to (To.buildSlice (vs := [g.val]) un22 zs54 rfl rfl (by intro v hv; rw [List.mem_singleton.1 hv]; rfl) (by decide) (by decide)) rfl ?_ -- t68
              intro b68
              refine WL.to (To.append sl22 rfl rfl (by repeat (first | exact Take1.head | apply Take1.tail)) (Reads.of (RdOf.blk (size := 5) (n := 1) (cs := flat [g.val]) (cs' := g.cells) (Nat.le_refl _) (by unfold maxLen; omega) (Nat.le_refl _) rfl) (by repeat (first | exact Take1.head | apply Take1.tail))) g.ones (show gs.length + 1 = (gs ++ [g]).length by simp) (show vcs Fd.val gs ++ g.cells = vcs Fd.val (gs ++ [g]) by rw [vcs_app, vcs_one]; rfl) (by simp; unfold maxLen; omega) (by simp; omega)) rfl ?_ -- t69
              rintro ⟨⟨ao69, c69⟩, hc69⟩
              dsimp only at hc69 ⊢
              refine WL.y (Yl.assign rfl) rfl ?_ -- t5
              refine WL.nil ?_
              refine WC.region ?_
              refine WL.y (Yl.add rfl rfl (IntWalk.i64_in _ (by omega))) rfl ?_ -- t70
              refine WL.y (Yl.move rfl) rfl ?_ -- t11
              refine WL.nil ?_
              have hq5 : tks (fs.take (j + 1)) B W = (s1 ++ [g.norm], B2, W2) := by rw [hq4, hst]
              refine ⟨rfl, (j + 1, (a2, c2), (ao69, c69), gs ++ [g], G2), ⟨by dsimp only; omega, by dsimp only; rw [hq5, List.map_append, hgs]; rfl, by dsimp only; rw [hq5]; exact r2, by dsimp only; rw [hq5]; exact hc2, fun f' hf' => ?_⟩, by dsimp only; omega, (by repeat (first | exact Sub.nil | refine Sub.cons rfl ?_)), _, (by dsimp only; rw [hq5]; exact (by repeat (first | exact TakeL.nil | (apply TakeL.cons; · repeat (first | exact Take1.head | apply Take1.tail)))))⟩
              dsimp only at hf' ⊢
              rcases List.mem_append.1 hf' with hf' | hf'
              · exact ⟨(hp f' hf').1.mono hmono, (hp f' hf').2.mono hmono⟩
              · rw [List.mem_singleton.1 hf']; exact ⟨hgb, hgl⟩
            · refine WC.skip ?_
              have hst : tkF f B1 W1 = ((Fd.mk f.kind 0 none 0 [] none 0 [] f.most).norm, (tkB 1 B1 W1), (flW B1 W1)) := by unfold tkF; rw [if_neg (by omega), if_neg (by omega), if_neg (by omega), if_pos (by omega), if_neg (by rw [g42]; decide)]; rfl
              obtain ⟨g, hg⟩ : ∃ g : Fd, (Fd.mk f.kind 0 none 0 [] none 0 [] f.most) = g := ⟨_, rfl⟩
              obtain ⟨G2, hG2⟩ : ∃ x, x = G := ⟨_, rfl⟩
              have hmono : ∀ w, (allR [r, G2]).ok w → (allR [r, G]).ok w := fun w h => by rw [hG2] at h; exact h
              have hgb : RdOf (allR [r, G2]) (.slice g.ba g.b.length g.bc) 1 g.b.length (ints .u8 g.b) := by rw [← hg]; exact RdOf.nothing
              have hgl : RdOf (allR [r, G2]) (.slice g.la g.l.length g.lc) 1 g.l.length (ints .u32 g.l) := by rw [← hg]; exact RdOf.nothing
              rw [hg] at hst ⊢
              subst hG2
              obtain ⟨B2, hB2⟩ : ∃ x, (tkB 1 B1 W1) = x := ⟨_, rfl⟩
              obtain ⟨W2, hW2⟩ : ∃ x, (flW B1 W1) = x := ⟨_, rfl⟩
              rw [hB2, hW2] at hst ⊢
              rw [hB2] at r2 hc2
              refine WC.region ?_
              refine WL.y (Yl.move rfl) rfl ?_ -- t66
              refine WL.y (Yl.loadN ag54 rfl (by repeat (first | exact Take1.head | apply Take1.tail)) (by rfl) (show _ = g.cells from rfl)) rfl ?_ -- t67
              refine WL.to (To.buildSlice (vs := [g.val]) un22 zs54 rfl rfl (by intro v hv; rw [List.mem_singleton.1 hv]; rfl) (by decide) (by decide)) rfl ?_ -- t68
              intro b68
              refine WL.to (To.append sl22 rfl rfl (by repeat (first | exact Take1.head | apply Take1.tail)) (Reads.of (RdOf.blk (size := 5) (n := 1) (cs := flat [g.val]) (cs' := g.cells) (Nat.le_refl _) (by unfold maxLen; omega) (Nat.le_refl _) rfl) (by repeat (first | exact Take1.head | apply Take1.tail))) g.ones (show gs.length + 1 = (gs ++ [g]).length by simp) (show vcs Fd.val gs ++ g.cells = vcs Fd.val (gs ++ [g]) by rw [vcs_app, vcs_one]; rfl) (by simp; unfold maxLen; omega) (by simp; omega)) rfl ?_ -- t69
              rintro ⟨⟨ao69, c69⟩, hc69⟩
              dsimp only at hc69 ⊢
              refine WL.y (Yl.assign rfl) rfl ?_ -- t5
              refine WL.nil ?_
              refine WC.region ?_
              refine WL.y (Yl.add rfl rfl (IntWalk.i64_in _ (by omega))) rfl ?_ -- t70
              refine WL.y (Yl.move rfl) rfl ?_ -- t11
              refine WL.nil ?_
              have hq5 : tks (fs.take (j + 1)) B W = (s1 ++ [g.norm], B2, W2) := by rw [hq4, hst]
              refine ⟨rfl, (j + 1, (a2, c2), (ao69, c69), gs ++ [g], G2), ⟨by dsimp only; omega, by dsimp only; rw [hq5, List.map_append, hgs]; rfl, by dsimp only; rw [hq5]; exact r2, by dsimp only; rw [hq5]; exact hc2, fun f' hf' => ?_⟩, by dsimp only; omega, (by repeat (first | exact Sub.nil | refine Sub.cons rfl ?_)), _, (by dsimp only; rw [hq5]; exact (by repeat (first | exact TakeL.nil | (apply TakeL.cons; · repeat (first | exact Take1.head | apply Take1.tail)))))⟩
              dsimp only at hf' ⊢
              rcases List.mem_append.1 hf' with hf' | hf'
              · exact ⟨(hp f' hf').1.mono hmono, (hp f' hf').2.mono hmono⟩
              · rw [List.mem_singleton.1 hf']; exact ⟨hgb, hgl⟩
          · refine WC.seq ?_
            refine WC.region ?_
            refine WL.y (Yl.eql rfl rfl) rfl ?_ -- t45
            refine WL.y (Yl.assign rfl) rfl ?_ -- t44
            refine WL.nil ?_
            refine WC.condD rfl (fun g44 => ?_) (fun g44 => ?_)
            · refine WC.region ?_
              refine WL.y (Yl.move rfl) rfl ?_ -- t46
              refine WL.y (Yl.field fo54_2 rfl) rfl ?_ -- t47
              refine WL.y (Yl.load on28 rfl (by repeat (first | exact Take1.head | apply Take1.tail)) (by rfl)) rfl ?_ -- t48
              refine WL.y (Yl.len un28 rfl) rfl ?_ -- t49
              refine WL.callC (xs := [.tmp 46, .tmp 49]) (cap := []) rfl rfl en33 (by repeat (first | exact TakeL.nil | (apply TakeL.cons; · repeat (first | exact Take1.head | apply Take1.tail)))) (fun w hw => inFixed_any b a1 c1 f.b.length B1 W1 r r1 hc1 w hw.left.here) rfl ?_ -- t50 (*hailer/wire.In).Fixed
              rintro ⟨⟨a4, c4⟩, a2, c2⟩ ⟨q1, q2, r2, hc2⟩
              dsimp only at q1 q2 r2 hc2 ⊢
              refine WL.y (Yl.field fo54_2 rfl) rfl ?_ -- t51
              refine WL.sto (Sto.one (cs' := (Fd.mk f.kind 0 a4 c4 (tkR f.b.length B1 W1) none 0 [] f.most).cells) sz28 rfl rfl (by repeat (first | exact Take1.head | apply Take1.tail)) rfl (by rfl) rfl) (fun _ h => nomatch h) ?_
              refine WL.nil ?_
              have hst : tkF f B1 W1 = ((Fd.mk f.kind 0 a4 c4 (tkR f.b.length B1 W1) none 0 [] f.most).norm, (tkB f.b.length B1 W1), (tkW f.b.length B1 W1)) := by unfold tkF; rw [if_neg (by omega), if_neg (by omega), if_neg (by omega), if_neg (by omega), if_pos (by omega)]; rfl
              obtain ⟨g, hg⟩ : ∃ g : Fd, (Fd.mk f.kind 0 a4 c4 (tkR f.b.length B1 W1) none 0 [] f.most) = g := ⟨_, rfl⟩
              obtain ⟨G2, hG2⟩ : ∃ x, x = G := ⟨_, rfl⟩
              have hmono : ∀ w, (allR [r, G2]).ok w → (allR [r, G]).ok w := fun w h => by rw [hG2] at h; exact h
              have hgb : RdOf (allR [r, G2]) (.slice g.ba g.b.length g.bc) 1 g.b.length (ints .u8 g.b) := by rw [← hg]; exact RdOf.all q1 (by simp)
              have hgl : RdOf (allR [r, G2]) (.slice g.la g.l.length g.lc) 1 g.l.length (ints .u32 g.l) := by rw [← hg]; exact RdOf.nothing
              rw [hg] at hst ⊢
              subst hG2
              obtain ⟨B2, hB2⟩ : ∃ x, (tkB f.b.length B1 W1) = x := ⟨_, rfl⟩
              obtain ⟨W2, hW2⟩ : ∃ x, (tkW f.b.length B1 W1) = x := ⟨_, rfl⟩
              rw [hB2, hW2] at hst ⊢
              rw [hB2] at r2 hc2
              refine WC.region ?_
              refine WL.y (Yl.move rfl) rfl ?_ -- t66
              refine WL.y (Yl.loadN ag54 rfl (by repeat (first | exact Take1.head | apply Take1.tail)) (by rfl) (show _ = g.cells from rfl)) rfl ?_ -- t67
              refine WL.to (To.buildSlice (vs := [g.val]) un22 zs54 rfl rfl (by intro v hv; rw [List.mem_singleton.1 hv]; rfl) (by decide) (by decide)) rfl ?_ -- t68
              intro b68
              refine WL.to (To.append sl22 rfl rfl (by repeat (first | exact Take1.head | apply Take1.tail)) (Reads.of (RdOf.blk (size := 5) (n := 1) (cs := flat [g.val]) (cs' := g.cells) (Nat.le_refl _) (by unfold maxLen; omega) (Nat.le_refl _) rfl) (by repeat (first | exact Take1.head | apply Take1.tail))) g.ones (show gs.length + 1 = (gs ++ [g]).length by simp) (show vcs Fd.val gs ++ g.cells = vcs Fd.val (gs ++ [g]) by rw [vcs_app, vcs_one]; rfl) (by simp; unfold maxLen; omega) (by simp; omega)) rfl ?_ -- t69
              rintro ⟨⟨ao69, c69⟩, hc69⟩
              dsimp only at hc69 ⊢
              refine WL.y (Yl.assign rfl) rfl ?_ -- t5
              refine WL.nil ?_
              refine WC.region ?_
              refine WL.y (Yl.add rfl rfl (IntWalk.i64_in _ (by omega))) rfl ?_ -- t70
              refine WL.y (Yl.move rfl) rfl ?_ -- t11
              refine WL.nil ?_
              have hq5 : tks (fs.take (j + 1)) B W = (s1 ++ [g.norm], B2, W2) := by rw [hq4, hst]
              refine ⟨rfl, (j + 1, (a2, c2), (ao69, c69), gs ++ [g], G2), ⟨by dsimp only; omega, by dsimp only; rw [hq5, List.map_append, hgs]; rfl, by dsimp only; rw [hq5]; exact r2, by dsimp only; rw [hq5]; exact hc2, fun f' hf' => ?_⟩, by dsimp only; omega, (by repeat (first | exact Sub.nil | refine Sub.cons rfl ?_)), _, (by dsimp only; rw [hq5]; exact (by repeat (first | exact TakeL.nil | (apply TakeL.cons; · repeat (first | exact Take1.head | apply Take1.tail)))))⟩
              dsimp only at hf' ⊢
              rcases List.mem_append.1 hf' with hf' | hf'
              · exact ⟨(hp f' hf').1.mono hmono, (hp f' hf').2.mono hmono⟩
              · rw [List.mem_singleton.1 hf']; exact ⟨hgb, hgl⟩
            · refine WC.seq ?_
              refine WC.region ?_
              refine WL.y (Yl.eql rfl rfl) rfl ?_ -- t53
              refine WL.y (Yl.assign rfl) rfl ?_ -- t52
              refine WL.nil ?_
              refine WC.condD rfl (fun g52 => ?_) (fun g52 => ?_)
              · refine WC.region ?_
                refine WL.y (Yl.move rfl) rfl ?_ -- t54
                refine WL.y (Yl.field fo54_4 rfl) rfl ?_ -- t55
                refine WL.y (Yl.load on3 rfl (by repeat (first | exact Take1.head | apply Take1.tail)) (by rfl)) rfl ?_ -- t56
                refine WL.callC (xs := [.tmp 54, .tmp 56]) (cap := []) rfl rfl en34 (by repeat (first | exact TakeL.nil | (apply TakeL.cons; · repeat (first | exact Take1.head | apply Take1.tail)))) (fun w hw => inSized_any b a1 c1 B1 W1 f.most r r1 hc1 hk1 w hw.left.here) rfl ?_ -- t57 (*hailer/wire.In).Sized
                rintro ⟨⟨a4, c4⟩, a2, c2⟩ ⟨q1, q2, r2, hc2⟩
                dsimp only at q1 q2 r2 hc2 ⊢
                refine WL.y (Yl.field fo54_2 rfl) rfl ?_ -- t58
                refine WL.sto (Sto.one (cs' := (Fd.mk f.kind 0 a4 c4 (tkR (szK B1 W1) (tkB 2 B1 W1) (mnW B1 W1 f.most)) none 0 [] f.most).cells) sz28 rfl rfl (by repeat (first | exact Take1.head | apply Take1.tail)) rfl (by rfl) rfl) (fun _ h => nomatch h) ?_
                refine WL.nil ?_
                have hst : tkF f B1 W1 = ((Fd.mk f.kind 0 a4 c4 (tkR (szK B1 W1) (tkB 2 B1 W1) (mnW B1 W1 f.most)) none 0 [] f.most).norm, (tkB (szK B1 W1) (tkB 2 B1 W1) (mnW B1 W1 f.most)), (tkW (szK B1 W1) (tkB 2 B1 W1) (mnW B1 W1 f.most))) := by unfold tkF; rw [if_neg (by omega), if_neg (by omega), if_neg (by omega), if_neg (by omega), if_neg (by omega), if_pos (by omega)]; rfl
                obtain ⟨g, hg⟩ : ∃ g : Fd, (Fd.mk f.kind 0 a4 c4 (tkR (szK B1 W1) (tkB 2 B1 W1) (mnW B1 W1 f.most)) none 0 [] f.most) = g := ⟨_, rfl⟩
                obtain ⟨G2, hG2⟩ : ∃ x, x = G := ⟨_, rfl⟩
                have hmono : ∀ w, (allR [r, G2]).ok w → (allR [r, G]).ok w := fun w h => by rw [hG2] at h; exact h
                have hgb : RdOf (allR [r, G2]) (.slice g.ba g.b.length g.bc) 1 g.b.length (ints .u8 g.b) := by rw [← hg]; exact RdOf.all q1 (by simp)
                have hgl : RdOf (allR [r, G2]) (.slice g.la g.l.length g.lc) 1 g.l.length (ints .u32 g.l) := by rw [← hg]; exact RdOf.nothing
                rw [hg] at hst ⊢
                subst hG2
                obtain ⟨B2, hB2⟩ : ∃ x, (tkB (szK B1 W1) (tkB 2 B1 W1) (mnW B1 W1 f.most)) = x := ⟨_, rfl⟩
                obtain ⟨W2, hW2⟩ : ∃ x, (tkW (szK B1 W1) (tkB 2 B1 W1) (mnW B1 W1 f.most)) = x := ⟨_, rfl⟩
                rw [hB2, hW2] at hst ⊢
                rw [hB2] at r2 hc2
                refine WC.region ?_
                refine WL.y (Yl.move rfl) rfl ?_ -- t66
                refine WL.y (Yl.loadN ag54 rfl (by repeat (first | exact Take1.head | apply Take1.tail)) (by rfl) (show _ = g.cells from rfl)) rfl ?_ -- t67
                refine WL.to (To.buildSlice (vs := [g.val]) un22 zs54 rfl rfl (by intro v hv; rw [List.mem_singleton.1 hv]; rfl) (by decide) (by decide)) rfl ?_ -- t68
                intro b68
                refine WL.to (To.append sl22 rfl rfl (by repeat (first | exact Take1.head | apply Take1.tail)) (Reads.of (RdOf.blk (size := 5) (n := 1) (cs := flat [g.val]) (cs' := g.cells) (Nat.le_refl _) (by unfold maxLen; omega) (Nat.le_refl _) rfl) (by repeat (first | exact Take1.head | apply Take1.tail))) g.ones (show gs.length + 1 = (gs ++ [g]).length by simp) (show vcs Fd.val gs ++ g.cells = vcs Fd.val (gs ++ [g]) by rw [vcs_app, vcs_one]; rfl) (by simp; unfold maxLen; omega) (by simp; omega)) rfl ?_ -- t69
                rintro ⟨⟨ao69, c69⟩, hc69⟩
                dsimp only at hc69 ⊢
                refine WL.y (Yl.assign rfl) rfl ?_ -- t5
                refine WL.nil ?_
                refine WC.region ?_
                refine WL.y (Yl.add rfl rfl (IntWalk.i64_in _ (by omega))) rfl ?_ -- t70
                refine WL.y (Yl.move rfl) rfl ?_ -- t11
                refine WL.nil ?_
                have hq5 : tks (fs.take (j + 1)) B W = (s1 ++ [g.norm], B2, W2) := by rw [hq4, hst]
                refine ⟨rfl, (j + 1, (a2, c2), (ao69, c69), gs ++ [g], G2), ⟨by dsimp only; omega, by dsimp only; rw [hq5, List.map_append, hgs]; rfl, by dsimp only; rw [hq5]; exact r2, by dsimp only; rw [hq5]; exact hc2, fun f' hf' => ?_⟩, by dsimp only; omega, (by repeat (first | exact Sub.nil | refine Sub.cons rfl ?_)), _, (by dsimp only; rw [hq5]; exact (by repeat (first | exact TakeL.nil | (apply TakeL.cons; · repeat (first | exact Take1.head | apply Take1.tail)))))⟩
                dsimp only at hf' ⊢
                rcases List.mem_append.1 hf' with hf' | hf'
                · exact ⟨(hp f' hf').1.mono hmono, (hp f' hf').2.mono hmono⟩
                · rw [List.mem_singleton.1 hf']; exact ⟨hgb, hgl⟩
              · refine WC.seq ?_
                refine WC.region ?_
                refine WL.y (Yl.eql rfl rfl) rfl ?_ -- t60
                refine WL.y (Yl.assign rfl) rfl ?_ -- t59
                refine WL.nil ?_
                refine WC.condD rfl (fun g59 => ?_) (fun g59 => ?_)
                · refine WC.region ?_
                  refine WL.y (Yl.move rfl) rfl ?_ -- t61
                  refine WL.y (Yl.field fo54_4 rfl) rfl ?_ -- t62
                  refine WL.y (Yl.load on3 rfl (by repeat (first | exact Take1.head | apply Take1.tail)) (by rfl)) rfl ?_ -- t63
                  refine WL.callC (xs := [.tmp 61, .tmp 63, .func 36]) (cap := []) rfl rfl en35 (by repeat (first | exact TakeL.nil | (apply TakeL.cons; · repeat (first | exact Take1.head | apply Take1.tail)))) (fun w hw => takeList_any b a1 c1 B1 W1 r r1 hc1 hk1 w hw.left.here f.most) rfl ?_ -- t64 hailer/wire.TakeList[uint32]
                  rintro ⟨⟨a4, c4⟩, a2, c2⟩ ⟨r2, hc2⟩
                  dsimp only at r2 hc2 ⊢
                  refine WL.y (Yl.field fo54_3 rfl) rfl ?_ -- t65
                  refine WL.sto (Sto.one (cs' := (Fd.mk f.kind 0 none 0 [] a4 c4 (tlL B1 W1 f.most) f.most).cells) sz52 rfl rfl (by repeat (first | exact Take1.head | apply Take1.tail)) rfl (by rfl) rfl) (fun _ h => nomatch h) ?_
                  refine WL.nil ?_
                  refine WC.view (fun w h => h.join (A := [G, ownR (.slice a4 (tlL B1 W1 f.most).length c4) 49 1 (tlL B1 W1 f.most).length (ints .u32 (tlL B1 W1 f.most))]) (by repeat (first | exact TakeL.nil | (apply TakeL.cons; · repeat (first | exact Take1.head | apply Take1.tail))))) ?_
                  have hst : tkF f B1 W1 = ((Fd.mk f.kind 0 none 0 [] a4 c4 (tlL B1 W1 f.most) f.most).norm, (tlS B1 W1 f.most).2.1, (tlS B1 W1 f.most).2.2) := by unfold tkF; rw [if_neg (by omega), if_neg (by omega), if_neg (by omega), if_neg (by omega), if_neg (by omega), if_neg (by omega), if_pos (by omega)]; rfl
                  obtain ⟨g, hg⟩ : ∃ g : Fd, (Fd.mk f.kind 0 none 0 [] a4 c4 (tlL B1 W1 f.most) f.most) = g := ⟨_, rfl⟩
                  obtain ⟨G2, hG2⟩ : ∃ x, (allR [G, ownR (.slice a4 (tlL B1 W1 f.most).length c4) 49 1 (tlL B1 W1 f.most).length (ints .u32 (tlL B1 W1 f.most))]) = x := ⟨_, rfl⟩
                  have hmono : ∀ w, (allR [r, G2]).ok w → (allR [r, G]).ok w := fun w h q hq => by
                    rw [← hG2] at h
                    rcases List.mem_cons.1 hq with rfl | hq
                    · exact h _ (by simp)
                    · rw [List.mem_singleton.1 hq]; exact h _ (List.mem_cons.2 (.inr (List.mem_singleton.2 rfl))) G (by simp)
                  have hgb : RdOf (allR [r, G2]) (.slice g.ba g.b.length g.bc) 1 g.b.length (ints .u8 g.b) := by rw [← hg]; exact RdOf.nothing
                  have hgl : RdOf (allR [r, G2]) (.slice g.la g.l.length g.lc) 1 g.l.length (ints .u32 g.l) := by rw [← hg, ← hG2]; exact RdOf.all (RdOf.all RdOf.own (List.mem_cons.2 (.inr (List.mem_singleton.2 rfl)))) (List.mem_cons.2 (.inr (List.mem_singleton.2 rfl)))
                  rw [hg] at hst ⊢
                  rw [hG2]
                  obtain ⟨B2, hB2⟩ : ∃ x, (tlS B1 W1 f.most).2.1 = x := ⟨_, rfl⟩
                  obtain ⟨W2, hW2⟩ : ∃ x, (tlS B1 W1 f.most).2.2 = x := ⟨_, rfl⟩
                  rw [hB2, hW2] at hst ⊢
                  rw [hB2] at r2 hc2
                  refine WC.region ?_
                  refine WL.y (Yl.move rfl) rfl ?_ -- t66
                  refine WL.y (Yl.loadN ag54 rfl (by repeat (first | exact Take1.head | apply Take1.tail)) (by rfl) (show _ = g.cells from rfl)) rfl ?_ -- t67
                  refine WL.to (To.buildSlice (vs := [g.val]) un22 zs54 rfl rfl (by intro v hv; rw [List.mem_singleton.1 hv]; rfl) (by decide) (by decide)) rfl ?_ -- t68
                  intro b68
                  refine WL.to (To.append sl22 rfl rfl (by repeat (first | exact Take1.head | apply Take1.tail)) (Reads.of (RdOf.blk (size := 5) (n := 1) (cs := flat [g.val]) (cs' := g.cells) (Nat.le_refl _) (by unfold maxLen; omega) (Nat.le_refl _) rfl) (by repeat (first | exact Take1.head | apply Take1.tail))) g.ones (show gs.length + 1 = (gs ++ [g]).length by simp) (show vcs Fd.val gs ++ g.cells = vcs Fd.val (gs ++ [g]) by rw [vcs_app, vcs_one]; rfl) (by simp; unfold maxLen; omega) (by simp; omega)) rfl ?_ -- t69
                  rintro ⟨⟨ao69, c69⟩, hc69⟩
                  dsimp only at hc69 ⊢
                  refine WL.y (Yl.assign rfl) rfl ?_ -- t5
                  refine WL.nil ?_
                  refine WC.region ?_
                  refine WL.y (Yl.add rfl rfl (IntWalk.i64_in _ (by omega))) rfl ?_ -- t70
                  refine WL.y (Yl.move rfl) rfl ?_ -- t11
                  refine WL.nil ?_
                  have hq5 : tks (fs.take (j + 1)) B W = (s1 ++ [g.norm], B2, W2) := by rw [hq4, hst]
                  refine ⟨rfl, (j + 1, (a2, c2), (ao69, c69), gs ++ [g], G2), ⟨by dsimp only; omega, by dsimp only; rw [hq5, List.map_append, hgs]; rfl, by dsimp only; rw [hq5]; exact r2, by dsimp only; rw [hq5]; exact hc2, fun f' hf' => ?_⟩, by dsimp only; omega, (by repeat (first | exact Sub.nil | refine Sub.cons rfl ?_)), _, (by dsimp only; rw [hq5]; exact (by repeat (first | exact TakeL.nil | (apply TakeL.cons; · repeat (first | exact Take1.head | apply Take1.tail)))))⟩
                  dsimp only at hf' ⊢
                  rcases List.mem_append.1 hf' with hf' | hf'
                  · exact ⟨(hp f' hf').1.mono hmono, (hp f' hf').2.mono hmono⟩
                  · rw [List.mem_singleton.1 hf']; exact ⟨hgb, hgl⟩
                · refine WC.skip ?_
                  obtain ⟨a2, c2, r2, hc2⟩ : ∃ a c, RdOf r (.slice a1 B1.length c1) 1 B1.length (ints .u8 B1) ∧ a = a1 ∧ c = c1 := ⟨a1, c1, r1, rfl, rfl⟩
                  obtain ⟨rfl, rfl⟩ := hc2
                  have hc2 := hc1
                  have hst : tkF f B1 W1 = ((Fd.mk f.kind 0 none 0 [] none 0 [] f.most).norm, B1, W1) := by unfold tkF; rw [if_neg (by omega), if_neg (by omega), if_neg (by omega), if_neg (by omega), if_neg (by omega), if_neg (by omega), if_neg (by omega)]; rfl
                  obtain ⟨g, hg⟩ : ∃ g : Fd, (Fd.mk f.kind 0 none 0 [] none 0 [] f.most) = g := ⟨_, rfl⟩
                  obtain ⟨G2, hG2⟩ : ∃ x, x = G := ⟨_, rfl⟩
                  have hmono : ∀ w, (allR [r, G2]).ok w → (allR [r, G]).ok w := fun w h => by rw [hG2] at h; exact h
                  have hgb : RdOf (allR [r, G2]) (.slice g.ba g.b.length g.bc) 1 g.b.length (ints .u8 g.b) := by rw [← hg]; exact RdOf.nothing
                  have hgl : RdOf (allR [r, G2]) (.slice g.la g.l.length g.lc) 1 g.l.length (ints .u32 g.l) := by rw [← hg]; exact RdOf.nothing
                  rw [hg] at hst ⊢
                  subst hG2
                  obtain ⟨B2, hB2⟩ : ∃ x, B1 = x := ⟨_, rfl⟩
                  obtain ⟨W2, hW2⟩ : ∃ x, W1 = x := ⟨_, rfl⟩
                  rw [hB2, hW2] at hst hq4 ⊢
                  rw [hB2] at r2 hc2
                  refine WC.region ?_
                  refine WL.y (Yl.move rfl) rfl ?_ -- t66
                  refine WL.y (Yl.loadN ag54 rfl (by repeat (first | exact Take1.head | apply Take1.tail)) (by rfl) (show _ = g.cells from rfl)) rfl ?_ -- t67
                  refine WL.to (To.buildSlice (vs := [g.val]) un22 zs54 rfl rfl (by intro v hv; rw [List.mem_singleton.1 hv]; rfl) (by decide) (by decide)) rfl ?_ -- t68
                  intro b68
                  refine WL.to (To.append sl22 rfl rfl (by repeat (first | exact Take1.head | apply Take1.tail)) (Reads.of (RdOf.blk (size := 5) (n := 1) (cs := flat [g.val]) (cs' := g.cells) (Nat.le_refl _) (by unfold maxLen; omega) (Nat.le_refl _) rfl) (by repeat (first | exact Take1.head | apply Take1.tail))) g.ones (show gs.length + 1 = (gs ++ [g]).length by simp) (show vcs Fd.val gs ++ g.cells = vcs Fd.val (gs ++ [g]) by rw [vcs_app, vcs_one]; rfl) (by simp; unfold maxLen; omega) (by simp; omega)) rfl ?_ -- t69
                  rintro ⟨⟨ao69, c69⟩, hc69⟩
                  dsimp only at hc69 ⊢
                  refine WL.y (Yl.assign rfl) rfl ?_ -- t5
                  refine WL.nil ?_
                  refine WC.region ?_
                  refine WL.y (Yl.add rfl rfl (IntWalk.i64_in _ (by omega))) rfl ?_ -- t70
                  refine WL.y (Yl.move rfl) rfl ?_ -- t11
                  refine WL.nil ?_
                  have hq5 : tks (fs.take (j + 1)) B W = (s1 ++ [g.norm], B2, W2) := by rw [hq4, hst]
                  refine ⟨rfl, (j + 1, (a2, c2), (ao69, c69), gs ++ [g], G2), ⟨by dsimp only; omega, by dsimp only; rw [hq5, List.map_append, hgs]; rfl, by dsimp only; rw [hq5]; exact r2, by dsimp only; rw [hq5]; exact hc2, fun f' hf' => ?_⟩, by dsimp only; omega, (by repeat (first | exact Sub.nil | refine Sub.cons rfl ?_)), _, (by dsimp only; rw [hq5]; exact (by repeat (first | exact TakeL.nil | (apply TakeL.cons; · repeat (first | exact Take1.head | apply Take1.tail)))))⟩
                  dsimp only at hf' ⊢
                  rcases List.mem_append.1 hf' with hf' | hf'
                  · exact ⟨(hp f' hf').1.mono hmono, (hp f' hf').2.mono hmono⟩
                  · rw [List.mem_singleton.1 hf']; exact ⟨hgb, hgl⟩
  · refine WC.exit ?_
    refine WC.seq ?_
    refine WC.region ?_
    refine WL.y (Yl.move rfl) rfl ?_ -- t71
    refine WL.y (Yl.assign rfl) rfl ?_ -- t4
    refine WL.nil ?_
    refine WC.ret ?_
    repeat (first | (with_reducible refine peelT ?_) | (with_reducible refine peelB ?_) | (with_reducible refine peelTX ?_) | (with_reducible refine peelBX ?_) | (with_reducible refine peelBN ?_) | (with_reducible refine peelBO rfl ?_))
    have hj2 : j = fs.length := by omega
    subst hj2
    rw [List.take_length] at hgs r1 hc1 ⊢
    refine ret1 (.inr rfl) Try.results13 rfl fun w' h => ⟨((a1, c1), (ao2, co2), gs, allR [ownR (.slice ao2 gs.length co2) 54 5 gs.length (vcs Fd.val gs), r, G]), ⟨⟨RdOf.all RdOf.own (List.mem_cons.2 (.inl rfl)), fun f hf => (hp f hf).1.mono ?_, fun f hf => (hp f hf).2.mono ?_⟩, hgs⟩, rfl, (h.join (A := [ownR (.slice ao2 gs.length co2) 54 5 gs.length (vcs Fd.val gs), r, G]) (by repeat (first | exact TakeL.nil | (apply TakeL.cons; · repeat (first | exact Take1.head | apply Take1.tail))))).sub (by repeat (first | exact TakeL.nil | (apply TakeL.cons; · repeat (first | exact Take1.head | apply Take1.tail))))⟩
    · exact fun w h q hq => h q (List.mem_cons_of_mem _ hq)
    · exact fun w h q hq => h q (List.mem_cons_of_mem _ hq)
end Go.Proofs.Ytahkaepmfnmhcaa
