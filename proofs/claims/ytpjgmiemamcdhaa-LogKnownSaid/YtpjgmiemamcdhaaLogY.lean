/- LogKnown: the walk. -/
import Derived.Test.YtpjgmiemamcdhaaLogX
namespace Go.Proofs.Ytpjgmiemamcdhaa
open Go Go.RowKit

/-- The records of the chapter's row. -/
def kn (i : Nat) : Rc := ⟨(i : Int) % 256 :: (i : Int) / 256 % 256 :: List.replicate 14 0, 0, false, 3, 0, 0, 0⟩
theorem kn_ok (i : Nat) : (kn i).ok := by
  have z := zero_ok
  refine ⟨rfl, ?_, z.peer, ⟨by show (0 : Int) ≤ 3; omega, by show (3 : Int) < _; omega⟩, z.bg, z.an, z.en⟩
  intro x hx
  simp [kn] at hx
  omega
theorem kn_may (i : Nat) : mayB (kn i) = true := by simp [kn, mayB]
theorem kn_id {i j : Nat} (hi : i < 65536) (hj : j < 65536) (h : (kn i).id = (kn j).id) : i = j := by
  simp [kn] at h
  omega
def knA (n : Nat) : List Rc := (List.range n).map kn
def knL (j : Nat) : List Rc := if j ≤ 4096 then knA j else (knA j).drop 1
theorem knA_len (n : Nat) : (knA n).length = n := by simp [knA]
theorem knA_ok (n : Nat) : ROk (knA n) := by
  intro r hr
  obtain ⟨i, _, rfl⟩ := List.mem_map.1 hr
  exact kn_ok i
theorem knL_ok (n : Nat) : ROk (knL n) := by
  unfold knL
  split
  · exact knA_ok n
  · exact fun r hr => knA_ok n r (List.mem_of_mem_drop hr)
theorem knL_len (n : Nat) : (knL n).length ≤ n := by
  unfold knL
  split
  · rw [knA_len]; omega
  · rw [List.length_drop, knA_len]; omega
theorem kn_step {j : Nat} (h : j ≤ 4096) : appF (knL j) (kn j) = knL (j + 1) ∧ evF (knL j) (kn j) = decide (j = 4096) := by
  have hL : knL j = knA j := by unfold knL; rw [if_pos h]
  have hf : ((knA j).filter fun x => !pId (kn j) x) = knA j := by
    rw [List.filter_eq_self]
    intro x hx
    obtain ⟨i, hi, rfl⟩ := List.mem_map.1 hx
    have hij := List.mem_range.1 hi
    cases hp : pId (kn j) (kn i) with
    | false => rfl
    | true => have := kn_id (by omega) (by omega) (pId_iff.1 hp); omega
  have hs : knA j ++ [kn j] = knA (j + 1) := by simp [knA, List.range_succ]
  unfold appF evF
  rw [if_pos (kn_may j), hL, hf, kn_may, Bool.true_and]
  unfold putF fullF knL
  rw [knA_len, hs]
  by_cases h2 : j = 4096
  · subst h2; exact ⟨rfl, rfl⟩
  · rw [if_pos (by omega), if_pos (by omega), decide_eq_false h2]
    exact ⟨rfl, by rw [decide_eq_true (by omega)]; rfl⟩
set_option maxRecDepth 20000 in
theorem kn_end : (knL 4097).length = 4096 ∧ findF (knL 4097) (List.replicate 16 0) = none ∧ ∃ x, x.ok ∧ findF (knL 4097) (1 :: List.replicate 15 0) = some x := by
  have hL : knL 4097 = (knA 4097).drop 1 := by unfold knL; rw [if_neg (by omega)]
  have hz : (kn 0).id = List.replicate 16 0 := rfl
  have ho : (kn 1).id = 1 :: List.replicate 15 0 := rfl
  refine ⟨by rw [hL, List.length_drop, knA_len], ?_, ?_⟩
  · refine find_no ?_
    intro y hy
    rw [List.mem_reverse, hL] at hy
    obtain ⟨i, hi⟩ := List.getElem?_of_mem hy
    rw [List.getElem?_drop] at hi
    unfold knA at hi
    rw [List.getElem?_map] at hi
    cases hr : (List.range 4097)[1 + i]? with
    | none => rw [hr] at hi; cases hi
    | some k =>
      rw [hr] at hi
      obtain ⟨hlt, he⟩ := List.getElem?_eq_some_iff.1 hr
      rw [List.length_range] at hlt
      rw [List.getElem_range] at he
      cases hi
      refine decide_eq_false (fun e => ?_)
      have := kn_id (i := k) (j := 0) (by omega) (by omega) (e.trans hz.symm)
      omega
  · cases hf : findF (knL 4097) (1 :: List.replicate 15 0) with
    | some x => exact ⟨x, knL_ok 4097 x (List.mem_reverse.1 (List.mem_of_find?_eq_some hf)), rfl⟩
    | none =>
      unfold findF at hf
      rw [List.find?_eq_none] at hf
      have hm : kn 1 ∈ (knL 4097).reverse := by
        rw [List.mem_reverse, hL]
        refine List.mem_of_getElem? (i := 0) ?_
        rw [List.getElem?_drop]
        unfold knA
        rw [List.getElem?_map, List.getElem?_range (by omega)]
        rfl
      exact absurd (decide_eq_true ho) (hf _ hm)

set_option maxHeartbeats 800000 in
set_option maxRecDepth 100000 in
theorem logKnown_any (w : World) (hw : OK w (fpL []) [] w) : Fn Try.prog 7 [] [] w (fun _ : Unit => True) (fun _ => .bool true) (fun _ => []) := by
  obtain ⟨hkl, hk0, x1, hx1, hk1⟩ := kn_end
  refine enterM Try.func7 rfl Try.ntmps7 rfl hw ?_
  refine WC.seq ?_
  refine WC.region ?_
  refine WL.to (To.alloc (cs := [.bool false]) zr4 rfl) rfl ?_ -- t0
  intro b0
  refine WL.nil ?_
  refine WC.seq ?_
  refine WC.seq ?_
  refine WC.region ?_
  refine WL.callC (xs := []) (cap := []) rfl rfl en8 (by repeat (first | exact TakeL.nil | (apply TakeL.cons; · repeat (first | exact Take1.head | apply Take1.tail)))) (fun w hw => worksL_any w hw.left.here) rfl ?_ -- t18 hailer/hailerlaw25.works
  rintro ⟨⟩ -
  refine WL.y (Yl.not rfl) rfl ?_ -- t19
  refine WL.nil ?_
  refine WC.condF rfl (by first | rfl | (simp; done) | (simp; omega)) ?_
  refine WC.skip ?_
  refine WC.seq ?_
  refine WC.region ?_
  refine WL.callC (xs := []) (cap := []) rfl rfl en17 (by repeat (first | exact TakeL.nil | (apply TakeL.cons; · repeat (first | exact Take1.head | apply Take1.tail)))) (fun w hw => logNew_any w hw.left.here) rfl ?_ -- t20 hailer/log.New
  rintro ⟨bl, bb⟩ -
  dsimp only [logR, List.cons_append, List.nil_append]
  refine WL.y (Yl.assign rfl) rfl ?_ -- t1
  refine WL.nil ?_
  refine WC.seq ?_
  refine WC.region ?_
  refine WL.y (Yl.assign rfl) rfl ?_ -- t2
  refine WL.nil ?_
  refine WC.seq ?_
  refine WC.seq ?_
  refine WC.region ?_
  refine WL.y (Yl.move rfl) rfl ?_ -- t21
  refine WL.nil ?_
  refine WC.block ?_
  refine WC.loop (α := Nat × (Option Addr × Nat)) (fun p => [(0, .pointer (some ⟨b0, 0, none⟩)), (1, .pointer (some ⟨bl, 0, none⟩)), (2, .int .i64 (if p.1 = 4097 then 1 else 0)), (21, .int .i64 (p.1 : Int))]) (fun p => [blkR b0 4 [.bool false], blkR bl 87 [.pointer (some ⟨bb, 0, none⟩)], blkR bb 90 [.slice p.2.1 (knL p.1).length p.2.2, .int .i64 4096], ownR (.slice p.2.1 (knL p.1).length p.2.2) 46 22 (knL p.1).length (vcs rcV (knL p.1))]) (fun p => p.1 ≤ 4097) (fun p => 4097 - p.1) (0, (none, 0)) (by decide) ⟨(by repeat (first | exact Sub.nil | refine Sub.cons rfl ?_)), _, (by repeat (first | exact TakeL.nil | (apply TakeL.cons; · repeat (first | exact Take1.head | apply Take1.tail))))⟩ ?_
  rintro ⟨j, ao, ca⟩ hj
  dsimp only at hj ⊢
  refine WC.seq ?_
  refine WC.region ?_
  refine WL.y (Yl.lss rfl rfl) rfl ?_ -- t22
  refine WL.nil ?_
  refine WC.seq ?_
  refine WC.condD rfl (fun g22 => ?_) (fun g22 => ?_)
  · refine WC.skip ?_
    refine WC.seq ?_
    refine WC.block ?_
    refine WC.seq ?_
    refine WC.region ?_
    have hj6 : j ≤ 4096 := by omega
    have hst := kn_step hj6
    have hjl := knL_len j
    refine WL.y (Yl.move rfl) rfl ?_ -- t23
    refine WL.y (Yl.assign rfl) rfl ?_ -- t3
    refine WL.nil ?_
    refine WC.seq ?_
    refine WC.region ?_
    refine WL.y (Yl.move rfl) rfl ?_ -- t25
    refine WL.y (Yl.move rfl) rfl ?_ -- t26
    refine WL.y (Yl.conv un3 un5 rfl (show IntKind.u8.wrap (j : Int) = (j : Int) % 256 by rw [IntKind.wrap_u8])) rfl ?_ -- t27
    refine WL.y (Yl.move rfl) rfl ?_ -- t28
    refine WL.y (Yl.shr rfl rfl ⟨by omega, by decide⟩ (show (j : Int) / 2 ^ (8 : Int).toNat = (j : Int) / 256 from rfl)) rfl ?_
    refine WL.y (Yl.conv un3 un5 rfl (show IntKind.u8.wrap ((j : Int) / 256) = (j : Int) / 256 % 256 by rw [IntKind.wrap_u8])) rfl ?_ -- t30
    refine WL.y (Yl.build rfl (cs := ints .u8 (kn j).id) (fun _ => by kernel_rfl)) rfl ?_ -- t31
    refine WL.y (Yl.build rfl (cs := (kn j).cells) (fun _ => by kernel_rfl)) rfl ?_ -- t32
    refine WL.callC (xs := [.tmp 25, .tmp 32]) (cap := []) rfl rfl en19 (by repeat (first | exact TakeL.nil | (apply TakeL.cons; · repeat (first | exact Take1.head | apply Take1.tail)))) (fun w hw => append_any bl bb ao ca (knL j) (kn j) (knL_ok j) (kn_ok j) (by omega) w hw.left.here) rfl ?_ -- t33 (*hailer/log.Log).Append
    rintro ⟨a33, c33⟩ -
    dsimp only [logR, List.cons_append, List.nil_append]
    rw [hst.1, hst.2]
    refine WL.y (Yl.move rfl) rfl ?_ -- t24
    refine WL.y (Yl.extract rfl rfl) rfl ?_ -- t34
    refine WL.y (Yl.extract rfl rfl) rfl ?_ -- t35
    refine WL.y (Yl.assign rfl) rfl ?_ -- t4
    refine WL.y (Yl.assign rfl) rfl ?_ -- t5
    refine WL.nil ?_
    refine WC.seq ?_
    refine WC.region ?_
    refine WL.y (Yl.move rfl) rfl ?_ -- t36
    refine WL.nil ?_
    refine WC.cond rfl (fun g36 => ?_) (fun g36 => ?_)
    · refine WC.region ?_
      refine WL.y (Yl.move rfl) rfl ?_ -- t37
      refine WL.y (Yl.add rfl rfl (IntWalk.i64_in _ (by omega))) rfl ?_ -- t38
      refine WL.say (t := 38) (v' := .int .i64 (if 4097 = 4097 then 1 else 0)) rfl (by (refine congrArg _ ?_; simp; omega)) ?_
      refine WL.y (Yl.assign rfl) rfl ?_ -- t2
      refine WL.nil ?_
      refine WC.region ?_
      refine WL.y (Yl.add rfl rfl (IntWalk.i64_in _ (by omega))) rfl ?_ -- t39
      refine WL.y (Yl.move rfl) rfl ?_ -- t21
      refine WL.nil ?_
      have hje : j = 4096 := by simpa using g36
      subst hje
      exact ⟨rfl, (4096 + 1, a33, c33), by dsimp only; omega, by dsimp only; omega, (by repeat (first | exact Sub.nil | refine Sub.cons rfl ?_)), _, (by repeat (first | exact TakeL.nil | (apply TakeL.cons; · repeat (first | exact Take1.head | apply Take1.tail))))⟩
    · refine WC.skip ?_
      refine WC.region ?_
      refine WL.y (Yl.add rfl rfl (IntWalk.i64_in _ (by omega))) rfl ?_ -- t39
      refine WL.y (Yl.move rfl) rfl ?_ -- t21
      refine WL.nil ?_
      have hje : j ≠ 4096 := by simpa using g36
      exact ⟨rfl, (j + 1, a33, c33), by dsimp only; omega, by dsimp only; omega, by dsimp only; rw [if_neg (show ¬ j + 1 = 4097 by omega)]; rw [if_neg (show ¬ j = 4097 by omega)]; exact (by repeat (first | exact Sub.nil | refine Sub.cons rfl ?_)), _, (by repeat (first | exact TakeL.nil | (apply TakeL.cons; · repeat (first | exact Take1.head | apply Take1.tail))))⟩
  · refine WC.exit ?_
    refine WC.seq ?_
    have hje : j = 4097 := by omega
    subst hje
    have hLG := knL_ok 4097
    obtain ⟨xs, hxs⟩ : ∃ xs, knL 4097 = xs := ⟨_, rfl⟩
    rw [hxs] at hkl hk0 hk1 hLG ⊢
    have h22 := Rc.cells_len hx1.len
    refine WC.region ?_
    refine WL.y (Yl.move rfl) rfl ?_ -- t41
    refine WL.y (Yl.build rfl (cs := ints .u8 (List.replicate 16 0)) (fun _ => by kernel_rfl)) rfl ?_ -- t42
    refine WL.callRo (xs := [.tmp 41, .tmp 42]) (cap := []) (A := [blkR bl 87 [.pointer (some ⟨bb, 0, none⟩)], blkR bb 90 [.slice ao xs.length ca, .int .i64 4096], ownR (.slice ao xs.length ca) 46 22 xs.length (vcs rcV xs)]) rfl rfl en22 (by repeat (first | exact TakeL.nil | (apply TakeL.cons; · repeat (first | exact Take1.head | apply Take1.tail)))) (fun w hw => findL_any bl bb ao ca xs hLG (by omega) (List.replicate 16 0) rfl (fun x hx => by have := List.eq_of_mem_replicate hx; omega) w hw.left.here) rfl ?_
    rintro ⟨⟩ -
    rw [hk0]
    refine WL.y (Yl.move rfl) rfl ?_ -- t40
    refine WL.y (Yl.extract rfl rfl) rfl ?_ -- t44
    refine WL.y (Yl.extract rfl rfl) rfl ?_ -- t45
    refine WL.to (To.alloc (cs := Rc.zero.cells) zr46 rfl) rfl ?_ -- t6
    intro b6
    refine WL.sto (Sto.agg sz46 rfl rfl (by repeat (first | exact Take1.head | apply Take1.tail)) (Rc.ones _) rfl (by rfl) (Rc.all (r := Rc.zero) rfl Rc.zero.cells rfl)) (fun _ h => nomatch h) ?_ -- st 2
    refine WL.y (Yl.assign rfl) rfl ?_ -- t7
    refine WL.nil ?_
    refine WC.seq ?_
    refine WC.region ?_
    refine WL.y (Yl.move rfl) rfl ?_ -- t47
    refine WL.y (Yl.build rfl (cs := ints .u8 (1 :: List.replicate 15 0)) (fun _ => by kernel_rfl)) rfl ?_ -- t48
    refine WL.callRo (xs := [.tmp 47, .tmp 48]) (cap := []) (A := [blkR bl 87 [.pointer (some ⟨bb, 0, none⟩)], blkR bb 90 [.slice ao xs.length ca, .int .i64 4096], ownR (.slice ao xs.length ca) 46 22 xs.length (vcs rcV xs)]) rfl rfl en22 (by repeat (first | exact TakeL.nil | (apply TakeL.cons; · repeat (first | exact Take1.head | apply Take1.tail)))) (fun w hw => findL_any bl bb ao ca xs hLG (by omega) (1 :: List.replicate 15 0) rfl (fun x hx => by simp at hx; omega) w hw.left.here) rfl ?_
    rintro ⟨⟩ -
    rw [hk1]
    dsimp only [Option.getD_some, Option.isSome_some]
    refine WL.y (Yl.move rfl) rfl ?_ -- t46
    refine WL.y (Yl.extract rfl rfl) rfl ?_ -- t50
    refine WL.y (Yl.extract rfl rfl) rfl ?_ -- t51
    refine WL.to (To.alloc (cs := Rc.zero.cells) zr46 rfl) rfl ?_ -- t8
    intro b8
    refine WL.sto (Sto.agg sz46 rfl rfl (by repeat (first | exact Take1.head | apply Take1.tail)) (Rc.ones _) h22 (by rfl) (Rc.all (r := Rc.zero) rfl x1.cells h22)) (fun _ h => nomatch h) ?_ -- st 3
    refine WL.y (Yl.assign rfl) rfl ?_ -- t9
    refine WL.nil ?_
    refine WC.seq ?_
    refine WC.region ?_
    refine WL.to (To.buildSlice (vs := [.int .u8 1]) un56 zs5 rfl rfl (by simp [Value.cells]) (by decide) (by decide)) rfl ?_ -- t53
    intro b53
    refine WL.view (fun w h => OK.readOnly (h.blkOwn (b := b53) (size := 1) (n := 1) (by repeat (first | exact Take1.head | apply Take1.tail)) (by unfold maxLen; omega) rfl) (by repeat (first | exact Take1.head | apply Take1.tail))) ?_
    refine WL.callC (xs := [.tmp 53]) (cap := []) rfl rfl en30 (by repeat (first | exact TakeL.nil | (apply TakeL.cons; · repeat (first | exact Take1.head | apply Take1.tail)))) (fun w hw => load_any [1] _ (fun x hx => by simp at hx; omega) (by decide) w hw.left.here) rfl ?_ -- t54 hailer/log.Load
    rintro ⟨⟨bl2, bb2⟩, ao2, ca2⟩ -
    dsimp only
    have hok : okL [1] = false := okL_short (by have := recN_le [1]; simp at this ⊢; omega)
    rw [if_neg (show ¬ okL [1] = true by rw [hok]; decide)]
    unfold ldV ldE
    rw [hok]
    refine WL.y (Yl.move rfl) rfl ?_ -- t52
    refine WL.y (Yl.extract rfl rfl) rfl ?_ -- t55
    refine WL.y (Yl.extract rfl rfl) rfl ?_ -- t56
    refine WL.y (Yl.assign rfl) rfl ?_ -- t10
    refine WL.y (Yl.assign rfl) rfl ?_ -- t11
    refine WL.nil ?_
    refine WC.seq ?_
    refine WC.region ?_
    refine WL.y (Yl.assign rfl) rfl ?_ -- t12
    refine WL.nil ?_
    refine WC.seq ?_
    refine WC.region ?_
    refine WL.y (Yl.assign rfl) rfl ?_ -- t13
    refine WL.nil ?_
    refine WC.seq ?_
    refine WC.region ?_
    refine WL.y (Yl.move rfl) rfl ?_ -- t58
    refine WL.callC (xs := [_]) (cap := []) rfl rfl en20 (by repeat (first | exact TakeL.nil | (apply TakeL.cons; · repeat (first | exact Take1.head | apply Take1.tail)))) (fun w hw => oneL_any 1 w hw.left.here) rfl ?_ -- t59 hailer/hailerlaw25.one
    rintro ⟨⟩ -
    refine WL.callC (xs := [.tmp 58, .tmp 59]) (cap := []) rfl rfl en19 (by repeat (first | exact TakeL.nil | (apply TakeL.cons; · repeat (first | exact Take1.head | apply Take1.tail)))) (fun w hw => append_nil (oneF 1) w hw.left.here) rfl ?_ -- t60 (*hailer/log.Log).Append
    rintro ⟨⟩ -
    refine WL.y (Yl.move rfl) rfl ?_ -- t57
    refine WL.y (Yl.extract rfl rfl) rfl ?_ -- t61
    refine WL.y (Yl.extract rfl rfl) rfl ?_ -- t62
    refine WL.y (Yl.assign rfl) rfl ?_ -- t14
    refine WL.y (Yl.assign rfl) rfl ?_ -- t15
    refine WL.nil ?_
    refine WC.seq ?_
    refine WC.region ?_
    refine WL.y (Yl.move rfl) rfl ?_ -- t64
    refine WL.y (Yl.build rfl (cs := ints .u8 (List.replicate 16 0)) (fun _ => by kernel_rfl)) rfl ?_ -- t65
    refine WL.callC (xs := [.tmp 64, .tmp 65]) (cap := []) rfl rfl en22 (by repeat (first | exact TakeL.nil | (apply TakeL.cons; · repeat (first | exact Take1.head | apply Take1.tail)))) (fun w hw => find_nil (List.replicate 16 0) w hw.left.here) rfl ?_ -- t66 (*hailer/log.Log).Find
    rintro ⟨⟩ -
    refine WL.y (Yl.move rfl) rfl ?_ -- t63
    refine WL.y (Yl.extract rfl rfl) rfl ?_ -- t67
    refine WL.y (Yl.extract rfl rfl) rfl ?_ -- t68
    refine WL.to (To.alloc (cs := Rc.zero.cells) zr46 rfl) rfl ?_ -- t16
    intro b16
    refine WL.sto (Sto.agg sz46 rfl rfl (by repeat (first | exact Take1.head | apply Take1.tail)) (Rc.ones _) rfl (by rfl) (Rc.all (r := Rc.zero) rfl Rc.zero.cells rfl)) (fun _ h => nomatch h) ?_ -- st 4
    refine WL.y (Yl.assign rfl) rfl ?_ -- t17
    refine WL.nil ?_
    refine WC.seq ?_
    refine WC.region ?_
    refine WL.y (Yl.move rfl) rfl ?_ -- t69
    refine WL.callC (xs := [.tmp 69, _]) (cap := []) rfl rfl en32 (by repeat (first | exact TakeL.nil | (apply TakeL.cons; · repeat (first | exact Take1.head | apply Take1.tail)))) (fun w hw => putI_nil 1 w hw.left.here) rfl ?_ -- t70 (*hailer/log.Bounded[int]).Put
    rintro ⟨⟩ -
    refine WL.nil ?_
    refine WC.seq ?_
    refine WC.seq ?_
    refine WC.region ?_
    refine WL.y (Yl.move rfl) rfl ?_ -- t71
    refine WL.callC (xs := [.tmp 71]) (cap := []) rfl rfl en28 (by repeat (first | exact TakeL.nil | (apply TakeL.cons; · repeat (first | exact Take1.head | apply Take1.tail)))) (fun w hw => nw_nil w hw.left.here) rfl ?_ -- t72 (*hailer/log.Log).Newest
    rintro ⟨bn, own⟩ -
    refine WL.nil ?_
    refine WC.block ?_
    refine WC.range (α := Unit) (xs := []) (fun _ _ => [blkR b0 4 [.bool false], blkR bl 87 [.pointer (some ⟨bb, 0, none⟩)], blkR bb 90 [.slice ao xs.length ca, .int .i64 4096], ownR (.slice ao xs.length ca) 46 22 xs.length (vcs rcV xs)]) (fun _ _ => True) () rfl en51 (fun x hx => nomatch hx) rfl (by repeat (first | exact Take1.head | apply Take1.tail)) trivial (by repeat (first | exact TakeL.nil | (apply TakeL.cons; · repeat (first | exact Take1.head | apply Take1.tail)))) (fun l i x s hx => by simp at hx) ?_
    rintro _ D -
    dsimp only [List.cons_append, List.nil_append, List.length_nil]
    refine WC.seq ?_
    refine WC.region ?_
    refine WL.y (Yl.move rfl) rfl ?_ -- t74
    refine WL.y (Yl.eql rfl rfl) rfl ?_ -- t75
    refine WL.know (t := 75) (b' := true) rfl (by first | rfl | (simp; done) | (simp; omega)) ?_
    refine WL.y (Yl.move rfl) rfl ?_ -- t76
    refine WL.on rfl rfl ?_
    refine WL.y (Yl.move rfl) rfl ?_ -- t77
    refine WL.on rfl rfl ?_
    refine WL.callC (xs := [.tmp 77]) (cap := []) rfl rfl en24 (by repeat (first | exact TakeL.nil | (apply TakeL.cons; · repeat (first | exact Take1.head | apply Take1.tail)))) (fun w hw => logLenS_any bl bb ao xs.length ca w (hw.srcB (A := []) (by repeat (first | exact Take1.head | apply Take1.tail))) (hw.srcB (A := []) (by repeat (first | exact Take1.head | apply Take1.tail))) hw.left.here) rfl ?_ -- t78 (*hailer/log.Log).Len
    rintro ⟨⟩ -
    refine WL.on rfl rfl ?_
    refine WL.y (Yl.eql rfl rfl) rfl ?_ -- t79
    refine WL.know (t := 79) (b' := true) rfl (decide_eq_true (by omega)) ?_
    refine WL.y (Yl.pickT rfl rfl) rfl ?_ -- t80
    refine WL.y (Yl.move rfl) rfl ?_ -- t81
    refine WL.on rfl rfl ?_
    refine WL.y (Yl.move rfl) rfl ?_ -- t82
    refine WL.on rfl rfl ?_
    refine WL.y (Yl.not rfl) rfl ?_ -- t83
    refine WL.know (t := 83) (b' := true) rfl (by first | rfl | (simp; done) | (simp; omega)) ?_
    refine WL.y (Yl.pickT rfl rfl) rfl ?_ -- t84
    refine WL.y (Yl.move rfl) rfl ?_ -- t85
    refine WL.on rfl rfl ?_
    refine WL.y (Yl.move rfl) rfl ?_ -- t86
    refine WL.know (t := 86) (b' := true) rfl (by first | rfl | (simp; done) | (simp; omega)) ?_
    refine WL.y (Yl.pickT rfl rfl) rfl ?_ -- t87
    refine WL.y (Yl.move rfl) rfl ?_ -- t88
    refine WL.on rfl rfl ?_
    refine WL.y (Yl.move rfl) rfl ?_ -- t89
    refine WL.on rfl rfl ?_
    refine WL.y (Yl.eql rfl rfl) rfl ?_ -- t90
    refine WL.know (t := 90) (b' := true) rfl (by first | rfl | (simp; done) | (simp; omega)) ?_
    refine WL.y (Yl.pickT rfl rfl) rfl ?_ -- t91
    refine WL.y (Yl.move rfl) rfl ?_ -- t92
    refine WL.on rfl rfl ?_
    refine WL.y (Yl.move rfl) rfl ?_ -- t93
    refine WL.on rfl rfl ?_
    refine WL.y (Yl.eql rfl rfl) rfl ?_ -- t94
    refine WL.know (t := 94) (b' := true) rfl (by first | rfl | (simp; done) | (simp; omega)) ?_
    refine WL.y (Yl.pickT rfl rfl) rfl ?_ -- t95
    refine WL.y (Yl.move rfl) rfl ?_ -- t96
    refine WL.on rfl rfl ?_
    refine WL.y (Yl.move rfl) rfl ?_ -- t97
    refine WL.on rfl rfl ?_
    refine WL.y (Yl.not rfl) rfl ?_ -- t98
    refine WL.know (t := 98) (b' := true) rfl (by first | rfl | (simp; done) | (simp; omega)) ?_
    refine WL.y (Yl.pickT rfl rfl) rfl ?_ -- t99
    refine WL.y (Yl.move rfl) rfl ?_ -- t100
    refine WL.on rfl rfl ?_
    refine WL.y (Yl.move rfl) rfl ?_ -- t101
    refine WL.on rfl rfl ?_
    refine WL.callC (xs := [.tmp 101]) (cap := []) rfl rfl en24 (by repeat (first | exact TakeL.nil | (apply TakeL.cons; · repeat (first | exact Take1.head | apply Take1.tail)))) (fun w hw => len_nil w hw.left.here) rfl ?_ -- t102 (*hailer/log.Log).Len
    rintro ⟨⟩ -
    refine WL.on rfl rfl ?_
    refine WL.y (Yl.eql rfl rfl) rfl ?_ -- t103
    refine WL.know (t := 103) (b' := true) rfl (by first | rfl | (simp; done) | (simp; omega)) ?_
    refine WL.y (Yl.pickT rfl rfl) rfl ?_ -- t104
    refine WL.y (Yl.move rfl) rfl ?_ -- t105
    refine WL.on rfl rfl ?_
    refine WL.y (Yl.move rfl) rfl ?_ -- t106
    refine WL.on rfl rfl ?_
    refine WL.callC (xs := [.tmp 106]) (cap := []) rfl rfl en25 (by repeat (first | exact TakeL.nil | (apply TakeL.cons; · repeat (first | exact Take1.head | apply Take1.tail)))) (fun w hw => bytes_nil w hw.left.here) rfl ?_ -- t107 (*hailer/log.Log).Bytes
    rintro ⟨⟩ -
    refine WL.on rfl rfl ?_
    refine WL.y (Yl.len un56 rfl) rfl ?_ -- t108
    refine WL.on rfl rfl ?_
    refine WL.y (Yl.eql rfl rfl) rfl ?_ -- t109
    refine WL.know (t := 109) (b' := true) rfl (by first | rfl | (simp; done) | (simp; omega)) ?_
    refine WL.y (Yl.pickT rfl rfl) rfl ?_ -- t110
    refine WL.y (Yl.move rfl) rfl ?_ -- t111
    refine WL.on rfl rfl ?_
    refine WL.y (Yl.move rfl) rfl ?_ -- t112
    refine WL.on rfl rfl ?_
    refine WL.callC (xs := [.tmp 112]) (cap := []) rfl rfl en18 (by repeat (first | exact TakeL.nil | (apply TakeL.cons; · repeat (first | exact Take1.head | apply Take1.tail)))) (fun w hw => copy_nil w hw.left.here) rfl ?_ -- t113 (*hailer/log.Log).Copy
    rintro ⟨⟩ -
    refine WL.on rfl rfl ?_
    refine WL.y (Yl.nilEq un41 rfl rfl) rfl ?_ -- t114
    refine WL.know (t := 114) (b' := true) rfl (by first | rfl | (simp; done) | (simp; omega)) ?_
    refine WL.y (Yl.pickT rfl rfl) rfl ?_ -- t115
    refine WL.y (Yl.move rfl) rfl ?_ -- t116
    refine WL.on rfl rfl ?_
    refine WL.y (Yl.move rfl) rfl ?_ -- t117
    refine WL.on rfl rfl ?_
    refine WL.callC (xs := [.tmp 117]) (cap := []) rfl rfl en33 (by repeat (first | exact TakeL.nil | (apply TakeL.cons; · repeat (first | exact Take1.head | apply Take1.tail)))) (fun w hw => lenI_nil w hw.left.here) rfl ?_ -- t118 (*hailer/log.Bounded[int]).Len
    rintro ⟨⟩ -
    refine WL.on rfl rfl ?_
    refine WL.y (Yl.eql rfl rfl) rfl ?_ -- t119
    refine WL.know (t := 119) (b' := true) rfl (by first | rfl | (simp; done) | (simp; omega)) ?_
    refine WL.y (Yl.pickT rfl rfl) rfl ?_ -- t120
    refine WL.y (Yl.move rfl) rfl ?_ -- t121
    refine WL.on rfl rfl ?_
    refine WL.y (Yl.move rfl) rfl ?_ -- t122
    refine WL.on rfl rfl ?_
    refine WL.callC (xs := [.tmp 122, _]) (cap := []) rfl rfl en34 (by repeat (first | exact TakeL.nil | (apply TakeL.cons; · repeat (first | exact Take1.head | apply Take1.tail)))) (fun w hw => dropI_nil _ w hw.left.here) rfl ?_ -- t123 (*hailer/log.Bounded[int]).Drop
    rintro ⟨⟩ -
    refine WL.on rfl rfl ?_
    refine WL.y (Yl.eql rfl rfl) rfl ?_ -- t124
    refine WL.know (t := 124) (b' := true) rfl (by first | rfl | (simp; done) | (simp; omega)) ?_
    refine WL.y (Yl.pickT rfl rfl) rfl ?_ -- t125
    refine WL.y (Yl.move rfl) rfl ?_ -- t126
    refine WL.on rfl rfl ?_
    refine WL.y (Yl.move rfl) rfl ?_ -- t127
    refine WL.on rfl rfl ?_
    refine WL.callC (xs := [.tmp 127]) (cap := []) rfl rfl en18 (by repeat (first | exact TakeL.nil | (apply TakeL.cons; · repeat (first | exact Take1.head | apply Take1.tail)))) (fun w hw => copyL_any bl bb ao ca xs hLG (by omega) w (hw.srcB (A := []) (by repeat (first | exact Take1.head | apply Take1.tail))) (hw.srcB (A := []) (by repeat (first | exact Take1.head | apply Take1.tail))) (hw.src (A := []) (r := ownR (.slice ao xs.length ca) 46 22 xs.length (vcs rcV xs)) RdOf.own (by repeat (first | exact Take1.head | apply Take1.tail))) hw.left.here) rfl ?_ -- t128 (*hailer/log.Log).Copy
    rintro ⟨⟨bl3, bb3⟩, ao3, ca3⟩ -
    dsimp only [logR, List.cons_append, List.nil_append]
    refine WL.on rfl rfl ?_
    refine WL.callC (xs := [.tmp 128]) (cap := []) rfl rfl en24 (by repeat (first | exact TakeL.nil | (apply TakeL.cons; · repeat (first | exact Take1.head | apply Take1.tail)))) (fun w hw => logLenS_any bl3 bb3 ao3 xs.length ca3 w (hw.srcB (A := []) (by repeat (first | exact Take1.head | apply Take1.tail))) (hw.srcB (A := []) (by repeat (first | exact Take1.head | apply Take1.tail))) hw.left.here) rfl ?_ -- t129 (*hailer/log.Log).Len
    rintro ⟨⟩ -
    refine WL.on rfl rfl ?_
    refine WL.y (Yl.eql rfl rfl) rfl ?_ -- t130
    refine WL.know (t := 130) (b' := true) rfl (decide_eq_true (by omega)) ?_
    refine WL.y (Yl.pickT rfl rfl) rfl ?_ -- t131
    refine WL.sto (Sto.one sz4 rfl rfl (by repeat (first | exact Take1.head | apply Take1.tail)) rfl (by rfl) (by rfl)) (fun _ h => nomatch h) ?_ -- st 6
    refine WL.nil ?_
    refine WC.ret ?_
    repeat (first | (with_reducible refine peelT ?_) | (with_reducible refine peelB ?_) | (with_reducible refine peelTX ?_) | (with_reducible refine peelBX ?_) | (with_reducible refine peelBN ?_) | (with_reducible refine peelBO rfl ?_))
    refine retM.of (.cons (by repeat (first | exact Take1.head | apply Take1.tail)) .nil) ?_
    exact retV1 (.inr rfl) Try.results7 on4 rfl (by repeat (first | exact Take1.head | apply Take1.tail)) fun w' h => ⟨(), trivial, rfl, h.sub (by repeat (first | exact TakeL.nil | (apply TakeL.cons; · repeat (first | exact Take1.head | apply Take1.tail))))⟩
end Go.Proofs.Ytpjgmiemamcdhaa
