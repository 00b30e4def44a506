/- The log asked for: the walks. -/
import Derived.Test.YtpjgmiemamcdhaaLogM
namespace Go.Proofs.Ytpjgmiemamcdhaa
open Go Go.RowKit

def qA (c1 c2 c3 c4 : Nat) (f t o : Int) (bl bb : Nat) (ao : Option Addr) (cap : Nat) (xs : List Rc) : List Res := [roR (blkR c1 41 [.pointer (some ⟨bl, 0, none⟩)]), roR (blkR c2 40 [.int .u64 f]), roR (blkR c3 40 [.int .u64 t]), roR (blkR c4 5 [.int .u8 o]), roR (blkR bl 87 [.pointer (some ⟨bb, 0, none⟩)]), roR (blkR bb 90 [.slice ao xs.length cap, .int .i64 4096]), rdR (.slice ao xs.length cap) 22 xs.length (vcs rcV xs)]

theorem q1_iter (c1 c2 c3 c4 : Nat) (f t o : Int) (bl bb : Nat) (ao : Option Addr) (cap : Nat) (xs : List Rc) (hG : ROk xs) (hl : xs.length ≤ 1000000) (w : World) (hA : OK w (fpL (qA c1 c2 c3 c4 f t o bl bb ao cap xs)) (qA c1 c2 c3 c4 f t o bl bb ao cap xs) w) :
    Iter Try.prog 53 ([.pointer (some ⟨c1, 0, none⟩), .pointer (some ⟨c2, 0, none⟩), .pointer (some ⟨c3, 0, none⟩), .pointer (some ⟨c4, 0, none⟩)] : List Value).toArray (fpL (qA c1 c2 c3 c4 f t o bl bb ao cap xs)).rd (ysR (queryF f t o xs)) w := by
  unfold qA at hA ⊢
  have hwr : ∀ r ∈ [roR (blkR c1 41 [.pointer (some ⟨bl, 0, none⟩)]), roR (blkR c2 40 [.int .u64 f]), roR (blkR c3 40 [.int .u64 t]), roR (blkR c4 5 [.int .u8 o]), roR (blkR bl 87 [.pointer (some ⟨bb, 0, none⟩)]), roR (blkR bb 90 [.slice ao xs.length cap, .int .i64 4096]), rdR (.slice ao xs.length cap) 22 xs.length (vcs rcV xs)], ∀ k, ¬ r.wr k := by
    intro r hr k hk
    simp at hr
    rcases hr with rfl | rfl | rfl | rfl | rfl | rfl | rfl <;> exact hk
  refine iter_ofM Try.func53 rfl Try.ntmps53 rfl hA hwr ?_
  intro l W g gx T0 hy
  refine WC.seq ?_
  refine WC.region ?_
  refine WL.to (To.box (cs := [.func (.yield l) #[] #[]]) rfl rfl) rfl ?_ -- t5
  intro b5
  refine WL.nil ?_
  refine WC.seq ?_
  refine WC.region ?_
  refine WL.y (Yl.loadRo on41 rfl (by repeat (first | exact Take1.head | apply Take1.tail)) (by rfl)) rfl ?_
  refine WL.callC (xs := [.tmp 7]) (cap := []) rfl rfl en28 (by repeat (first | exact TakeL.nil | (apply TakeL.cons; · repeat (first | exact Take1.head | apply Take1.tail)))) (fun w hw => nwRd_any bl bb ao cap xs hG hl w hw.left.here) rfl ?_ -- t8 (*hailer/log.Log).Newest
  rintro ⟨bn, own⟩ -
  refine WL.nil ?_
  refine WC.block ?_
  refine WC.range (α := Nat × (Nat → Prop)) (xs := ysR xs.reverse) (fun i s => [gstR g s.1 s.2, blkR b5 91 [.func (.yield l) #[] #[]], roR (blkR c2 40 [.int .u64 f]), roR (blkR c3 40 [.int .u64 t]), roR (blkR c4 5 [.int .u8 o])]) (fun i s => s.1 = ((xs.reverse.take i).filter (qF f t o)).length) (0, T0) rfl en51 ysR_size rfl (by repeat (first | exact Take1.head | apply Take1.tail)) rfl (by repeat (first | exact TakeL.nil | (apply TakeL.cons; · repeat (first | exact Take1.head | apply Take1.tail)))) ?_ ?_
  · intro l2 i x s hx hs W2
    obtain ⟨k, T⟩ := s
    dsimp only at hs ⊢
    obtain ⟨x, hx0, rfl⟩ := ysR_at hx
    have hxo : x.ok := hG x (List.mem_reverse.1 (List.mem_of_getElem? hx0))
    have h22 := Rc.cells_len hxo.len
    have hnext := filter_take (p := qF f t o) hx0
    show WC _ _ _ ((9, .agg x.cells.toArray) :: _) _ _
    refine WC.region ?_
    refine WL.to (To.alloc (cs := Rc.zero.cells) zr46 rfl) rfl ?_ -- t6
    intro b6
    refine WL.sto (Sto.agg sz46 rfl rfl (by repeat (first | exact Take1.head | apply Take1.tail)) (Rc.ones _) h22 (by rfl) (Rc.all (r := Rc.zero) rfl x.cells h22)) (fun _ h => nomatch h) ?_ -- st 1
    refine WL.nil ?_
    repeat (first | (with_reducible refine peelT ?_) | (with_reducible refine peelB ?_) | (with_reducible refine peelTX ?_) | (with_reducible refine peelBX ?_) | (with_reducible refine peelBN ?_) | (with_reducible refine peelBO rfl ?_))
    refine fun W2 => ?_
    refine WC.block ?_
    refine WC.seq ?_
    refine WC.region ?_
    refine WL.y (Yl.field fo46_6 rfl) rfl ?_ -- t10
    refine WL.y (Yl.load on40 rfl (by repeat (first | exact Take1.head | apply Take1.tail)) (Rc.c21 hxo.len)) rfl ?_ -- t11
    refine WL.y (Yl.loadRo on40 rfl (by repeat (first | exact Take1.head | apply Take1.tail)) (by rfl)) rfl ?_
    refine WL.y (Yl.geq rfl rfl) rfl ?_ -- t13
    refine WL.y (Yl.move rfl) rfl ?_ -- t14
    refine WL.both (t := 14) rfl (fun g14 => ?_) (fun g14 => ?_)
    · refine WL.on rfl rfl ?_
      refine WL.y (Yl.field fo46_6 rfl) rfl ?_ -- t15
      refine WL.on rfl rfl ?_
      refine WL.y (Yl.load on40 rfl (by repeat (first | exact Take1.head | apply Take1.tail)) (Rc.c21 hxo.len)) rfl ?_ -- t16
      refine WL.on rfl rfl ?_
      refine WL.y (Yl.loadRo on40 rfl (by repeat (first | exact Take1.head | apply Take1.tail)) (by rfl)) rfl ?_
      refine WL.on rfl rfl ?_
      refine WL.y (Yl.lss rfl rfl) rfl ?_ -- t18
      refine WL.y (Yl.pickT rfl rfl) rfl ?_ -- t19
      refine WL.y (Yl.move rfl) rfl ?_ -- t20
      refine WL.both (t := 20) rfl (fun g20 => ?_) (fun g20 => ?_)
      · refine WL.on rfl rfl ?_
        refine WL.y (Yl.loadRo on5 rfl (by repeat (first | exact Take1.head | apply Take1.tail)) (by rfl)) rfl ?_
        refine WL.on rfl rfl ?_
        refine WL.y (Yl.eql rfl rfl) rfl ?_ -- t22
        refine WL.on rfl rfl ?_
        refine WL.y (Yl.move rfl) rfl ?_ -- t23
        refine WL.both (t := 23) rfl (fun g23 => ?_) (fun g23 => ?_)
        · refine WL.off rfl rfl rfl rfl ?_ -- t24
          refine WL.off rfl rfl rfl rfl ?_ -- t25
          refine WL.off rfl rfl rfl rfl ?_ -- t26
          refine WL.off rfl rfl rfl rfl ?_ -- t27
          refine WL.on rfl rfl ?_
          refine WL.y (Yl.pickT rfl rfl) rfl ?_ -- t28
          refine WL.y (Yl.pickT rfl rfl) rfl ?_ -- t29
          refine WL.y (Yl.move rfl) rfl ?_ -- t30
          refine WL.on rfl rfl ?_
          refine WL.y (Yl.load on91 rfl (by repeat (first | exact Take1.head | apply Take1.tail)) (by rfl)) rfl ?_ -- t31
          refine WL.on rfl rfl ?_
          refine WL.y (Yl.loadN ag46 rfl (by repeat (first | exact Take1.head | apply Take1.tail)) (leB (by rw [h22]; omega)) (Rc.call hxo.len)) rfl ?_ -- t32
          refine WL.on rfl rfl ?_
          refine WL.fact (p := qF f t o x = true) (fun _ _ => by (simp only [decide_eq_true_eq, decide_eq_false_iff_not, ge_iff_le] at *; simp only [qF, Bool.and_eq_true, Bool.or_eq_true, decide_eq_true_eq]; omega)) (fun hq => ?_)
          have hq2 : (queryF f t o xs)[k]? = some x := by rw [hs]; exact filter_get hx0 hq
          have hkl := (List.getElem?_eq_some_iff.1 hq2).1
          rw [hq, if_pos rfl] at hnext
          refine WL.yield (xs := [.tmp 32]) (i := k) hy rfl rfl (ysR_get hq2) (by repeat (first | exact Take1.head | apply Take1.tail)) rfl ?_
          intro b33 T'
          refine WL.on rfl rfl ?_
          refine WL.y (Yl.not rfl) rfl ?_ -- t34
          refine WL.y (Yl.pickT rfl rfl) rfl ?_ -- t35
          refine WL.nil ?_
          refine WC.cond rfl (fun g35 => ?_) (fun g35 => ?_)
          · refine WC.ret ?_
            repeat (first | (with_reducible refine peelT ?_) | (with_reducible refine peelB ?_) | (with_reducible refine peelTX ?_) | (with_reducible refine peelBX ?_) | (with_reducible refine peelBN ?_) | (with_reducible refine peelBO rfl ?_))
            have hb : b33 = false := by simpa using g35
            subst hb
            simp only [Bool.false_eq_true, if_false]
            refine ⟨[gstR gx k T'], _, (by repeat (first | exact TakeL.nil | (apply TakeL.cons; · repeat (first | exact Take1.head | apply Take1.tail)))), fun D => ?_⟩
            dsimp only [List.cons_append, List.nil_append]
            repeat (first | (with_reducible refine peelT ?_) | (with_reducible refine peelB ?_) | (with_reducible refine peelTX ?_) | (with_reducible refine peelBX ?_) | (with_reducible refine peelBN ?_) | (with_reducible refine peelBO rfl ?_))
            first | (refine retM.of (.cons (by repeat (first | exact Take1.head | apply Take1.tail)) .nil) ?_; rw [← hk]; exact itEnd (.inl rfl) Try.results53 (by repeat (first | exact Take1.head | apply Take1.tail))) | (refine retM.of (.cons (by repeat (first | exact Take1.head | apply Take1.tail)) .nil) ?_; exact itStop (i := k) (.inr rfl) Try.results53 (by repeat (first | exact Take1.head | apply Take1.tail)) (by rw [ysR_len]; exact hkl))
          · refine WC.skip ?_
            repeat (first | (with_reducible refine peelT ?_) | (with_reducible refine peelB ?_) | (with_reducible refine peelTX ?_) | (with_reducible refine peelBX ?_) | (with_reducible refine peelBN ?_) | (with_reducible refine peelBO rfl ?_))
            first | (have hb : b33 = true := (by simpa using g35); subst hb; simp only [if_true]; exact ⟨[gstR g (k + 1) T', blkR b5 91 [.func (.yield l) #[] #[]], roR (blkR c2 40 [.int .u64 f]), roR (blkR c3 40 [.int .u64 t]), roR (blkR c4 5 [.int .u8 o])], _, (by repeat (first | exact TakeL.nil | (apply TakeL.cons; · repeat (first | exact Take1.head | apply Take1.tail)))), (k + 1, T'), (by dsimp only; rw [hnext, List.length_append, hs]; rfl), rfl⟩) | (have hq : qF f t o x = false := (by (simp only [decide_eq_true_eq, decide_eq_false_iff_not, ge_iff_le] at *; rw [← Bool.not_eq_true]; simp only [qF, Bool.and_eq_true, Bool.or_eq_true, decide_eq_true_eq]; omega)); rw [hq] at hnext; simp only [Bool.false_eq_true, if_false, List.append_nil] at hnext; exact ⟨[gstR g k T, blkR b5 91 [.func (.yield l) #[] #[]], roR (blkR c2 40 [.int .u64 f]), roR (blkR c3 40 [.int .u64 t]), roR (blkR c4 5 [.int .u8 o])], _, (by repeat (first | exact TakeL.nil | (apply TakeL.cons; · repeat (first | exact Take1.head | apply Take1.tail)))), (k, T), (by dsimp only; rw [hnext]; exact hs), rfl⟩)
        · refine WL.on rfl rfl ?_
          refine WL.y (Yl.field fo46_3 rfl) rfl ?_ -- t24
          refine WL.on rfl rfl ?_
          refine WL.y (Yl.load on5 rfl (by repeat (first | exact Take1.head | apply Take1.tail)) (Rc.c18 hxo.len)) rfl ?_ -- t25
          refine WL.on rfl rfl ?_
          refine WL.y (Yl.loadRo on5 rfl (by repeat (first | exact Take1.head | apply Take1.tail)) (by rfl)) rfl ?_
          refine WL.on rfl rfl ?_
          refine WL.y (Yl.eql rfl rfl) rfl ?_ -- t27
          refine WL.on rfl rfl ?_
          refine WL.y (Yl.pickF rfl rfl) rfl ?_ -- t28
          refine WL.y (Yl.pickT rfl rfl) rfl ?_ -- t29
          refine WL.y (Yl.move rfl) rfl ?_ -- t30
          refine WL.both (t := 30) rfl (fun g30 => ?_) (fun g30 => ?_)
          · refine WL.on rfl rfl ?_
            refine WL.y (Yl.load on91 rfl (by repeat (first | exact Take1.head | apply Take1.tail)) (by rfl)) rfl ?_ -- t31
            refine WL.on rfl rfl ?_
            refine WL.y (Yl.loadN ag46 rfl (by repeat (first | exact Take1.head | apply Take1.tail)) (leB (by rw [h22]; omega)) (Rc.call hxo.len)) rfl ?_ -- t32
            refine WL.on rfl rfl ?_
            refine WL.fact (p := qF f t o x = true) (fun _ _ => by (simp only [decide_eq_true_eq, decide_eq_false_iff_not, ge_iff_le] at *; simp only [qF, Bool.and_eq_true, Bool.or_eq_true, decide_eq_true_eq]; omega)) (fun hq => ?_)
            have hq2 : (queryF f t o xs)[k]? = some x := by rw [hs]; exact filter_get hx0 hq
            have hkl := (List.getElem?_eq_some_iff.1 hq2).1
            rw [hq, if_pos rfl] at hnext
            refine WL.yield (xs := [.tmp 32]) (i := k) hy rfl rfl (ysR_get hq2) (by repeat (first | exact Take1.head | apply Take1.tail)) rfl ?_
            intro b33 T'
            refine WL.on rfl rfl ?_
            refine WL.y (Yl.not rfl) rfl ?_ -- t34
            refine WL.y (Yl.pickT rfl rfl) rfl ?_ -- t35
            refine WL.nil ?_
            refine WC.cond rfl (fun g35 => ?_) (fun g35 => ?_)
            · refine WC.ret ?_
              repeat (first | (with_reducible refine peelT ?_) | (with_reducible refine peelB ?_) | (with_reducible refine peelTX ?_) | (with_reducible refine peelBX ?_) | (with_reducible refine peelBN ?_) | (with_reducible refine peelBO rfl ?_))
              have hb : b33 = false := by simpa using g35
              subst hb
              simp only [Bool.false_eq_true, if_false]
              refine ⟨[gstR gx k T'], _, (by repeat (first | exact TakeL.nil | (apply TakeL.cons; · repeat (first | exact Take1.head | apply Take1.tail)))), fun D => ?_⟩
              dsimp only [List.cons_append, List.nil_append]
              repeat (first | (with_reducible refine peelT ?_) | (with_reducible refine peelB ?_) | (with_reducible refine peelTX ?_) | (with_reducible refine peelBX ?_) | (with_reducible refine peelBN ?_) | (with_reducible refine peelBO rfl ?_))
              first | (refine retM.of (.cons (by repeat (first | exact Take1.head | apply Take1.tail)) .nil) ?_; rw [← hk]; exact itEnd (.inl rfl) Try.results53 (by repeat (first | exact Take1.head | apply Take1.tail))) | (refine retM.of (.cons (by repeat (first | exact Take1.head | apply Take1.tail)) .nil) ?_; exact itStop (i := k) (.inr rfl) Try.results53 (by repeat (first | exact Take1.head | apply Take1.tail)) (by rw [ysR_len]; exact hkl))
            · refine WC.skip ?_
              repeat (first | (with_reducible refine peelT ?_) | (with_reducible refine peelB ?_) | (with_reducible refine peelTX ?_) | (with_reducible refine peelBX ?_) | (with_reducible refine peelBN ?_) | (with_reducible refine peelBO rfl ?_))
              first | (have hb : b33 = true := (by simpa using g35); subst hb; simp only [if_true]; exact ⟨[gstR g (k + 1) T', blkR b5 91 [.func (.yield l) #[] #[]], roR (blkR c2 40 [.int .u64 f]), roR (blkR c3 40 [.int .u64 t]), roR (blkR c4 5 [.int .u8 o])], _, (by repeat (first | exact TakeL.nil | (apply TakeL.cons; · repeat (first | exact Take1.head | apply Take1.tail)))), (k + 1, T'), (by dsimp only; rw [hnext, List.length_append, hs]; rfl), rfl⟩) | (have hq : qF f t o x = false := (by (simp only [decide_eq_true_eq, decide_eq_false_iff_not, ge_iff_le] at *; rw [← Bool.not_eq_true]; simp only [qF, Bool.and_eq_true, Bool.or_eq_true, decide_eq_true_eq]; omega)); rw [hq] at hnext; simp only [Bool.false_eq_true, if_false, List.append_nil] at hnext; exact ⟨[gstR g k T, blkR b5 91 [.func (.yield l) #[] #[]], roR (blkR c2 40 [.int .u64 f]), roR (blkR c3 40 [.int .u64 t]), roR (blkR c4 5 [.int .u8 o])], _, (by repeat (first | exact TakeL.nil | (apply TakeL.cons; · repeat (first | exact Take1.head | apply Take1.tail)))), (k, T), (by dsimp only; rw [hnext]; exact hs), rfl⟩)
          · refine WL.off rfl rfl rfl rfl ?_ -- t31
            refine WL.off rfl rfl rfl rfl ?_ -- t32
            refine WL.off rfl rfl rfl rfl ?_ -- t33
            refine WL.off rfl rfl rfl rfl ?_ -- t34
            refine WL.y (Yl.pickF rfl rfl) rfl ?_ -- t35
            refine WL.nil ?_
            refine WC.condF rfl (by first | rfl | (simp; done) | (simp; omega)) ?_
            refine WC.skip ?_
            repeat (first | (with_reducible refine peelT ?_) | (with_reducible refine peelB ?_) | (with_reducible refine peelTX ?_) | (with_reducible refine peelBX ?_) | (with_reducible refine peelBN ?_) | (with_reducible refine peelBO rfl ?_))
            first | (have hb : b33 = true := (by simpa using g35); subst hb; simp only [if_true]; exact ⟨[gstR g (k + 1) T', blkR b5 91 [.func (.yield l) #[] #[]], roR (blkR c2 40 [.int .u64 f]), roR (blkR c3 40 [.int .u64 t]), roR (blkR c4 5 [.int .u8 o])], _, (by repeat (first | exact TakeL.nil | (apply TakeL.cons; · repeat (first | exact Take1.head | apply Take1.tail)))), (k + 1, T'), (by dsimp only; rw [hnext, List.length_append, hs]; rfl), rfl⟩) | (have hq : qF f t o x = false := (by (simp only [decide_eq_true_eq, decide_eq_false_iff_not, ge_iff_le] at *; rw [← Bool.not_eq_true]; simp only [qF, Bool.and_eq_true, Bool.or_eq_true, decide_eq_true_eq]; omega)); rw [hq] at hnext; simp only [Bool.false_eq_true, if_false, List.append_nil] at hnext; exact ⟨[gstR g k T, blkR b5 91 [.func (.yield l) #[] #[]], roR (blkR c2 40 [.int .u64 f]), roR (blkR c3 40 [.int .u64 t]), roR (blkR c4 5 [.int .u8 o])], _, (by repeat (first | exact TakeL.nil | (apply TakeL.cons; · repeat (first | exact Take1.head | apply Take1.tail)))), (k, T), (by dsimp only; rw [hnext]; exact hs), rfl⟩)
      · refine WL.off rfl rfl rfl rfl ?_ -- t21
        refine WL.off rfl rfl rfl rfl ?_ -- t22
        refine WL.off rfl rfl rfl rfl ?_ -- t23
        refine WL.offU rfl rfl rfl ?_ -- t24
        refine WL.offU rfl rfl rfl ?_ -- t25
        refine WL.offU rfl rfl rfl ?_ -- t26
        refine WL.offU rfl rfl rfl ?_ -- t27
        refine WL.off rfl rfl rfl rfl ?_ -- t28
        refine WL.y (Yl.pickF rfl rfl) rfl ?_ -- t29
        refine WL.y (Yl.move rfl) rfl ?_ -- t30
        refine WL.off rfl rfl rfl rfl ?_ -- t31
        refine WL.off rfl rfl rfl rfl ?_ -- t32
        refine WL.off rfl rfl rfl rfl ?_ -- t33
        refine WL.off rfl rfl rfl rfl ?_ -- t34
        refine WL.y (Yl.pickF rfl rfl) rfl ?_ -- t35
        refine WL.nil ?_
        refine WC.condF rfl (by first | rfl | (simp; done) | (simp; omega)) ?_
        refine WC.skip ?_
        repeat (first | (with_reducible refine peelT ?_) | (with_reducible refine peelB ?_) | (with_reducible refine peelTX ?_) | (with_reducible refine peelBX ?_) | (with_reducible refine peelBN ?_) | (with_reducible refine peelBO rfl ?_))
        first | (have hb : b33 = true := (by simpa using g35); subst hb; simp only [if_true]; exact ⟨[gstR g (k + 1) T', blkR b5 91 [.func (.yield l) #[] #[]], roR (blkR c2 40 [.int .u64 f]), roR (blkR c3 40 [.int .u64 t]), roR (blkR c4 5 [.int .u8 o])], _, (by repeat (first | exact TakeL.nil | (apply TakeL.cons; · repeat (first | exact Take1.head | apply Take1.tail)))), (k + 1, T'), (by dsimp only; rw [hnext, List.length_append, hs]; rfl), rfl⟩) | (have hq : qF f t o x = false := (by (simp only [decide_eq_true_eq, decide_eq_false_iff_not, ge_iff_le] at *; rw [← Bool.not_eq_true]; simp only [qF, Bool.and_eq_true, Bool.or_eq_true, decide_eq_true_eq]; omega)); rw [hq] at hnext; simp only [Bool.false_eq_true, if_false, List.append_nil] at hnext; exact ⟨[gstR g k T, blkR b5 91 [.func (.yield l) #[] #[]], roR (blkR c2 40 [.int .u64 f]), roR (blkR c3 40 [.int .u64 t]), roR (blkR c4 5 [.int .u8 o])], _, (by repeat (first | exact TakeL.nil | (apply TakeL.cons; · repeat (first | exact Take1.head | apply Take1.tail)))), (k, T), (by dsimp only; rw [hnext]; exact hs), rfl⟩)
    · refine WL.off rfl rfl rfl rfl ?_ -- t15
      refine WL.off rfl rfl rfl rfl ?_ -- t16
      refine WL.off rfl rfl rfl rfl ?_ -- t17
      refine WL.off rfl rfl rfl rfl ?_ -- t18
      refine WL.y (Yl.pickF rfl rfl) rfl ?_ -- t19
      refine WL.y (Yl.move rfl) rfl ?_ -- t20
      refine WL.off rfl rfl rfl rfl ?_ -- t21
      refine WL.off rfl rfl rfl rfl ?_ -- t22
      refine WL.off rfl rfl rfl rfl ?_ -- t23
      refine WL.offU rfl rfl rfl ?_ -- t24
      refine WL.offU rfl rfl rfl ?_ -- t25
      refine WL.offU rfl rfl rfl ?_ -- t26
      refine WL.offU rfl rfl rfl ?_ -- t27
      refine WL.off rfl rfl rfl rfl ?_ -- t28
      refine WL.y (Yl.pickF rfl rfl) rfl ?_ -- t29
      refine WL.y (Yl.move rfl) rfl ?_ -- t30
      refine WL.off rfl rfl rfl rfl ?_ -- t31
      refine WL.off rfl rfl rfl rfl ?_ -- t32
      refine WL.off rfl rfl rfl rfl ?_ -- t33
      refine WL.off rfl rfl rfl rfl ?_ -- t34
      refine WL.y (Yl.pickF rfl rfl) rfl ?_ -- t35
      refine WL.nil ?_
      refine WC.condF rfl (by first | rfl | (simp; done) | (simp; omega)) ?_
      refine WC.skip ?_
      repeat (first | (with_reducible refine peelT ?_) | (with_reducible refine peelB ?_) | (with_reducible refine peelTX ?_) | (with_reducible refine peelBX ?_) | (with_reducible refine peelBN ?_) | (with_reducible refine peelBO rfl ?_))
      first | (have hb : b33 = true := (by simpa using g35); subst hb; simp only [if_true]; exact ⟨[gstR g (k + 1) T', blkR b5 91 [.func (.yield l) #[] #[]], roR (blkR c2 40 [.int .u64 f]), roR (blkR c3 40 [.int .u64 t]), roR (blkR c4 5 [.int .u8 o])], _, (by repeat (first | exact TakeL.nil | (apply TakeL.cons; · repeat (first | exact Take1.head | apply Take1.tail)))), (k + 1, T'), (by dsimp only; rw [hnext, List.length_append, hs]; rfl), rfl⟩) | (have hq : qF f t o x = false := (by (simp only [decide_eq_true_eq, decide_eq_false_iff_not, ge_iff_le] at *; rw [← Bool.not_eq_true]; simp only [qF, Bool.and_eq_true, Bool.or_eq_true, decide_eq_true_eq]; omega)); rw [hq] at hnext; simp only [Bool.false_eq_true, if_false, List.append_nil] at hnext; exact ⟨[gstR g k T, blkR b5 91 [.func (.yield l) #[] #[]], roR (blkR c2 40 [.int .u64 f]), roR (blkR c3 40 [.int .u64 t]), roR (blkR c4 5 [.int .u8 o])], _, (by repeat (first | exact TakeL.nil | (apply TakeL.cons; · repeat (first | exact Take1.head | apply Take1.tail)))), (k, T), (by dsimp only; rw [hnext]; exact hs), rfl⟩)
  · rintro ⟨k, T⟩ D hs
    dsimp only at hs
    have hk : k = (ysR (queryF f t o xs)).length := by rw [hs, ysR_len, ysR_len, List.take_length]; rfl
    dsimp only [List.cons_append, List.nil_append]
    repeat (first | (with_reducible refine peelT ?_) | (with_reducible refine peelB ?_) | (with_reducible refine peelTX ?_) | (with_reducible refine peelBX ?_) | (with_reducible refine peelBN ?_) | (with_reducible refine peelBO rfl ?_))
    first | (refine retM.of (.cons (by repeat (first | exact Take1.head | apply Take1.tail)) .nil) ?_; rw [← hk]; exact itEnd (.inl rfl) Try.results53 (by repeat (first | exact Take1.head | apply Take1.tail))) | (refine retM.of (.cons (by repeat (first | exact Take1.head | apply Take1.tail)) .nil) ?_; exact itStop (i := k) (.inr rfl) Try.results53 (by repeat (first | exact Take1.head | apply Take1.tail)) (by rw [ysR_len]; exact hkl))

theorem queryL_any (bl bb : Nat) (ao : Option Addr) (cap : Nat) (xs : List Rc) (f t o : Int) (hG : ROk xs) (hl : xs.length ≤ 1000000) (w : World) (hw : OK w (fpL (logRd bl bb ao cap xs)) (logRd bl bb ao cap xs) w) :
    Fn Try.prog 29 [.pointer (some ⟨bl, 0, none⟩), .int .u64 f, .int .u64 t, .int .u8 o] (logRd bl bb ao cap xs) w (fun _ : (Nat × Nat × Nat × Nat) × (Nat → Prop) => True) (fun y => .func (.func 53) #[] ([.pointer (some ⟨y.1.1, 0, none⟩), .pointer (some ⟨y.1.2.1, 0, none⟩), .pointer (some ⟨y.1.2.2.1, 0, none⟩), .pointer (some ⟨y.1.2.2.2, 0, none⟩)] : List Value).toArray)
      (fun y => [itR Try.prog 53 [.pointer (some ⟨y.1.1, 0, none⟩), .pointer (some ⟨y.1.2.1, 0, none⟩), .pointer (some ⟨y.1.2.2.1, 0, none⟩), .pointer (some ⟨y.1.2.2.2, 0, none⟩)] y.2 (ysR (queryF f t o xs))]) := by
  unfold logRd at hw ⊢
  refine enterF Try.func29 rfl Try.ntmps29 rfl hw ?_
  refine WC.seq ?_
  refine WC.region ?_
  refine WL.to (To.box (cs := [.pointer (some ⟨bl, 0, none⟩)]) rfl rfl) rfl ?_ -- t4
  intro b4
  refine WL.to (To.box (cs := [.int .u64 f]) rfl rfl) rfl ?_ -- t5
  intro b5
  refine WL.to (To.box (cs := [.int .u64 t]) rfl rfl) rfl ?_ -- t6
  intro b6
  refine WL.to (To.box (cs := [.int .u8 o]) rfl rfl) rfl ?_ -- t7
  intro b7
  refine WL.y (Yl.assign rfl) rfl ?_ -- t8
  refine WL.nil ?_
  refine WC.seq ?_
  refine WC.region ?_
  refine WL.y (Yl.makeFunc (xs := []) (ys := [.tmp 4, .tmp 5, .tmp 6, .tmp 7]) rfl rfl) rfl ?_ -- t9
  refine WL.y (Yl.assign rfl) rfl ?_ -- t8
  refine WL.nil ?_
  refine WC.ret ?_
  repeat (first | (with_reducible refine peelT ?_) | (with_reducible refine peelB ?_) | (with_reducible refine peelTX ?_) | (with_reducible refine peelBX ?_) | (with_reducible refine peelBN ?_) | (with_reducible refine peelBO rfl ?_))
  refine ret1 (.inr rfl) Try.results29 rfl fun w' hh => ⟨((b4, b5, b6, b7), (fpL (qA b4 b5 b6 b7 f t o bl bb ao cap xs)).rd), trivial, rfl, ?_⟩
  have hA : OK w _ ([blkR b4 41 [.pointer (some ⟨bl, 0, none⟩)], blkR b5 40 [.int .u64 f], blkR b6 40 [.int .u64 t], blkR b7 5 [.int .u8 o], roR (blkR bl 87 [.pointer (some ⟨bb, 0, none⟩)]), roR (blkR bb 90 [.slice ao xs.length cap, .int .i64 4096]), rdR (.slice ao xs.length cap) 22 xs.length (vcs rcV xs)] ++ []) w' := hh.sub (by repeat (first | exact TakeL.nil | (apply TakeL.cons; · repeat (first | exact Take1.head | apply Take1.tail))))
  exact hA.toIter (q1_iter b4 b5 b6 b7 f t o bl bb ao cap xs hG hl w' hA.freeze.here) (fun k hk => rd_freeze (A := [blkR b4 41 [.pointer (some ⟨bl, 0, none⟩)], blkR b5 40 [.int .u64 f], blkR b6 40 [.int .u64 t], blkR b7 5 [.int .u8 o], roR (blkR bl 87 [.pointer (some ⟨bb, 0, none⟩)]), roR (blkR bb 90 [.slice ao xs.length cap, .int .i64 4096]), rdR (.slice ao xs.length cap) 22 xs.length (vcs rcV xs)]) hk)
end Go.Proofs.Ytpjgmiemamcdhaa
