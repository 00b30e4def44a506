/- works: records are appended, each id once: the walk. -/
import Derived.Test.YtpjgmiemamcdhaaLogG
import Derived.Test.YtpjgmiemamcdhaaLogAI
namespace Go.Proofs.Ytpjgmiemamcdhaa
open Go Go.RowKit

def wid : List Int := [1, 2, 1]
def wl : Nat → List Rc
  | 0 => []
  | 1 => [oneF 1]
  | 2 => [oneF 1, oneF 2]
  | _ => [oneF 2, oneF 1]
theorem wl_ok (j : Nat) : ROk (wl j) := by
  have a := oneF_ok (id := 1) (by omega)
  have b := oneF_ok (id := 2) (by omega)
  match j with
  | 0 => exact fun x hx => nomatch hx
  | 1 => exact ROk.one a
  | 2 => exact ROk.app (ROk.one a) (ROk.one b)
  | _ + 3 => exact ROk.app (ROk.one b) (ROk.one a)
theorem wl_len (j : Nat) : (wl j).length ≤ 2 := by
  match j with
  | 0 | 1 | 2 | _ + 3 => simp [wl]
theorem putF_small {α : Type} {most : Int} {xs : List α} {x : α} (h : ((xs.length + 1 : Nat) : Int) ≤ most) : putF most xs x = xs ++ [x] ∧ fullF most xs = false := by
  unfold putF fullF
  rw [if_pos h, decide_eq_true h]
  exact ⟨rfl, rfl⟩
theorem appF_small {xs ys : List Rc} {r : Rc} (hm : mayB r = true) (hf : (xs.filter fun x => !pId r x) = ys) (h : ys.length ≤ 4000) : appF xs r = ys ++ [r] ∧ evF xs r = false := by
  have := putF_small (most := 4096) (xs := ys) (x := r) (by omega)
  unfold appF evF
  rw [if_pos hm, hf, hm, this.1, this.2]
  exact ⟨rfl, rfl⟩
theorem wl_step {j : Nat} (h : j < 3) : appF (wl j) (oneF (wid.getD j 0)) = wl (j + 1) ∧ evF (wl j) (oneF (wid.getD j 0)) = false := by
  match j, h with
  | 0, _ => exact appF_small (ys := []) (oneF_may _) rfl (by simp)
  | 1, _ => exact appF_small (ys := [oneF 1]) (oneF_may _) (by simp [wl, wid, pId, oneF]) (by simp)
  | 2, _ => exact appF_small (ys := [oneF 2]) (oneF_may _) (by simp [wl, wid, pId, oneF]) (by simp)
theorem wid_b (j : Nat) : 0 ≤ wid.getD j 0 ∧ wid.getD j 0 < 256 := by
  match j with
  | 0 => decide
  | 1 => decide
  | 2 => decide
  | _ + 3 => simp [wid]

theorem worksL_any (w : World) (hw : OK w (fpL []) [] w) : Fn Try.prog 8 [] [] w (fun _ : Unit => True) (fun _ => .bool true) (fun _ => []) := by
  refine enterF Try.func8 rfl Try.ntmps8 rfl hw ?_
  refine WC.seq ?_
  refine WC.region ?_
  refine WL.y (Yl.assign rfl) rfl ?_ -- t0
  refine WL.nil ?_
  refine WC.seq ?_
  refine WC.region ?_
  refine WL.callC (xs := []) (cap := []) rfl rfl en17 (by repeat (first | exact TakeL.nil | (apply TakeL.cons; · repeat (first | exact Take1.head | apply Take1.tail)))) (fun w hw => logNew_any w hw.left.here) rfl ?_ -- t9 hailer/log.New
  rintro ⟨bl, bb⟩ -
  dsimp only [logR, List.cons_append, List.nil_append]
  refine WL.y (Yl.assign rfl) rfl ?_ -- t1
  refine WL.nil ?_
  refine WC.seq ?_
  refine WC.seq ?_
  refine WC.region ?_
  refine WL.to (To.buildSlice (vs := [.int .u8 1, .int .u8 2, .int .u8 1]) un56 zs5 rfl rfl (by simp [Value.cells]) (by decide) (by decide)) rfl ?_ -- t10
  intro b10
  refine WL.y (Yl.len un56 rfl) rfl ?_ -- t11
  refine WL.y (Yl.move rfl) rfl ?_ -- t12
  refine WL.nil ?_
  refine WC.block ?_
  refine WC.loop (α := Nat × (Option Addr × Nat)) (fun p => [(1, .pointer (some ⟨bl, 0, none⟩)), (10, .slice (some ⟨b10, 0, none⟩) 3 3), (11, .int .i64 3), (12, .int .i64 (p.1 : Int))]) (fun p => blkR b10 5 (ints .u8 wid) :: logR bl bb p.2.1 p.2.2 (wl p.1)) (fun p => p.1 ≤ 3) (fun p => 3 - p.1) (0, none, 0) (Nat.zero_le _) ⟨(by repeat (first | exact Sub.nil | refine Sub.cons rfl ?_)), _, by dsimp only [logR]; exact (by repeat (first | exact TakeL.nil | (apply TakeL.cons; · repeat (first | exact Take1.head | apply Take1.tail))))⟩ ?_
  rintro ⟨j, ao, ca⟩ hj
  dsimp only at hj ⊢
  have hwl := wl_len j
  refine WC.seq ?_
  refine WC.region ?_
  refine WL.y (Yl.lss rfl rfl) rfl ?_ -- t13
  refine WL.nil ?_
  refine WC.seq ?_
  refine WC.condD rfl (fun g13 => ?_) (fun g13 => ?_)
  · refine WC.skip ?_
    refine WC.seq ?_
    refine WC.block ?_
    refine WC.seq ?_
    refine WC.region ?_
    have hst := wl_step (j := j) (by omega)
    refine WL.y (Yl.index un56 sz5 rfl rfl (Reads.of (RdOf.blk (size := 1) (cs := ints .u8 wid) (cs' := ints .u8 wid) (Nat.le_refl _) (by unfold maxLen; omega) (by simp [ints, wid]) rfl) (by repeat (first | exact Take1.head | apply Take1.tail))) rfl (by omega)) rfl ?_ -- t14
    refine WL.y (Yl.loadE on5 rfl (Reads.of (RdOf.blk (size := 1) (cs := ints .u8 wid) (cs' := ints .u8 wid) (Nat.le_refl _) (by unfold maxLen; omega) (by simp [ints, wid]) rfl) (by repeat (first | exact Take1.head | apply Take1.tail))) (ints_get .u8 wid j (by simp [wid]; omega))) rfl ?_ -- t15
    refine WL.y (Yl.assign rfl) rfl ?_ -- t3
    refine WL.nil ?_
    refine WC.seq ?_
    refine WC.region ?_
    refine WL.y (Yl.move rfl) rfl ?_ -- t17
    refine WL.y (Yl.move rfl) rfl ?_ -- t18
    refine WL.callC (xs := [.tmp 18]) (cap := []) rfl rfl en20 (by repeat (first | exact TakeL.nil | (apply TakeL.cons; · repeat (first | exact Take1.head | apply Take1.tail)))) (fun w hw => oneL_any _ w hw.left.here) rfl ?_ -- t19 hailer/hailerlaw25.one
    rintro ⟨⟩ -
    refine WL.callC (xs := [.tmp 17, .tmp 19]) (cap := []) rfl rfl en19 (by repeat (first | exact TakeL.nil | (apply TakeL.cons; · repeat (first | exact Take1.head | apply Take1.tail)))) (fun w hw => append_any bl bb ao ca (wl j) (oneF (wid.getD j 0)) (wl_ok j) (oneF_ok (wid_b j)) (by omega) w hw.left.here) rfl ?_ -- t20 (*hailer/log.Log).Append
    rintro ⟨a20, c20⟩ -
    dsimp only
    rw [hst.1, hst.2, if_pos (oneF_may _)]
    refine WL.y (Yl.move rfl) rfl ?_ -- t16
    refine WL.y (Yl.extract rfl rfl) rfl ?_ -- t21
    refine WL.y (Yl.extract rfl rfl) rfl ?_ -- t22
    refine WL.y (Yl.assign rfl) rfl ?_ -- t4
    refine WL.y (Yl.assign rfl) rfl ?_ -- t5
    refine WL.nil ?_
    refine WC.seq ?_
    refine WC.region ?_
    refine WL.y (Yl.move rfl) rfl ?_ -- t23
    refine WL.y (Yl.move rfl) rfl ?_ -- t24
    refine WL.know (t := 24) (b' := false) rfl (by first | rfl | (simp; done) | (simp; omega)) ?_
    refine WL.on rfl rfl ?_
    refine WL.y (Yl.move rfl) rfl ?_ -- t25
    refine WL.on rfl rfl ?_
    refine WL.y (Yl.neq rfl rfl) rfl ?_ -- t26
    refine WL.know (t := 26) (b' := false) rfl (by first | rfl | (simp; done) | (simp; omega)) ?_
    refine WL.y (Yl.pickF rfl rfl) rfl ?_ -- t27
    refine WL.nil ?_
    refine WC.condF rfl (by first | rfl | (simp; done) | (simp; omega)) ?_
    refine WC.skip ?_
    refine WC.region ?_
    refine WL.y (Yl.add rfl rfl (IntWalk.i64_in _ (by omega))) rfl ?_ -- t28
    refine WL.y (Yl.move rfl) rfl ?_ -- t12
    refine WL.nil ?_
    exact ⟨rfl, (j + 1, a20, c20), by dsimp only; omega, by dsimp only; omega, (by repeat (first | exact Sub.nil | refine Sub.cons rfl ?_)), _, by dsimp only [logR, List.cons_append, List.nil_append]; exact (by repeat (first | exact TakeL.nil | (apply TakeL.cons; · repeat (first | exact Take1.head | apply Take1.tail))))⟩
  · refine WC.exit ?_
    refine WC.seq ?_
    refine WC.region ?_
    have hj3 : j = 3 := by omega
    subst hj3
    refine WL.callC (xs := [_]) (cap := []) rfl rfl en35 (by repeat (first | exact TakeL.nil | (apply TakeL.cons; · repeat (first | exact Take1.head | apply Take1.tail)))) (fun w hw => newI_any 1 w hw.left.here) rfl ?_ -- t29 hailer/log.NewBounded[int]
    rintro b29 -
    rw [show (if (0 : Int) > 1 then 0 else 1) = (1 : Int) by decide]
    refine WL.y (Yl.assign rfl) rfl ?_ -- t6
    refine WL.nil ?_
    refine WC.seq ?_
    refine WC.region ?_
    refine WL.y (Yl.move rfl) rfl ?_ -- t30
    refine WL.callC (xs := [.tmp 30, _]) (cap := []) rfl rfl en32 (by repeat (first | exact TakeL.nil | (apply TakeL.cons; · repeat (first | exact Take1.head | apply Take1.tail)))) (fun w hw => putI_any b29 1 none 0 [] 3 (by simp) w hw.left.here (by omega)) rfl ?_ -- t31 (*hailer/log.Bounded[int]).Put
    rintro ⟨a31, c31⟩ -
    rw [show putF (1 : Int) [] (3 : Int) = [3] by simp [putF]]
    refine WL.nil ?_
    refine WC.seq ?_
    refine WC.region ?_
    refine WL.y (Yl.move rfl) rfl ?_ -- t33
    refine WL.callC (xs := [.tmp 33, _]) (cap := []) rfl rfl en32 (by repeat (first | exact TakeL.nil | (apply TakeL.cons; · repeat (first | exact Take1.head | apply Take1.tail)))) (fun w hw => putI_any b29 1 a31 c31 [3] 4 (by simp) w hw.left.here (by omega)) rfl ?_ -- t34 (*hailer/log.Bounded[int]).Put
    rintro ⟨a34, c34⟩ -
    rw [show putF (1 : Int) [3] (4 : Int) = [4] by simp [putF], show outF (0 : Int) 1 [3] 4 = 3 by simp [outF], show fullF (1 : Int) ([3] : List Int) = true by simp [fullF]]
    refine WL.y (Yl.move rfl) rfl ?_ -- t32
    refine WL.y (Yl.extract rfl rfl) rfl ?_ -- t35
    refine WL.y (Yl.extract rfl rfl) rfl ?_ -- t36
    refine WL.y (Yl.assign rfl) rfl ?_ -- t7
    refine WL.y (Yl.assign rfl) rfl ?_ -- t8
    refine WL.nil ?_
    refine WC.seq ?_
    refine WC.region ?_
    refine WL.y (Yl.move rfl) rfl ?_ -- t37
    refine WL.callC (xs := [.tmp 37]) (cap := []) rfl rfl en24 (by repeat (first | exact TakeL.nil | (apply TakeL.cons; · repeat (first | exact Take1.head | apply Take1.tail)))) (fun w hw => logLen_any bl bb ao ca (wl 3) w hw.left.here) rfl ?_ -- t38 (*hailer/log.Log).Len
    rintro ⟨⟩ -
    dsimp only [logR, List.cons_append, List.nil_append]
    refine WL.y (Yl.eql rfl rfl) rfl ?_ -- t39
    refine WL.know (t := 39) (b' := true) rfl (by first | rfl | (simp; done) | (simp; omega)) ?_
    refine WL.y (Yl.move rfl) rfl ?_ -- t40
    refine WL.on rfl rfl ?_
    refine WL.y (Yl.move rfl) rfl ?_ -- t41
    refine WL.on rfl rfl ?_
    refine WL.callC (xs := [.tmp 41]) (cap := []) rfl rfl en28 (by repeat (first | exact TakeL.nil | (apply TakeL.cons; · repeat (first | exact Take1.head | apply Take1.tail)))) (fun w hw => nw_any bl bb ao ca (wl 3) (wl_ok 3) (by omega) w hw.left.here) rfl ?_ -- t42 (*hailer/log.Log).Newest
    rintro ⟨bn, own⟩ -
    dsimp only [List.cons_append, List.nil_append]
    rw [show (wl 3).reverse = [oneF 1, oneF 2] by simp [wl]]
    refine WL.on rfl rfl ?_
    refine WL.callC (xs := [_]) (cap := []) rfl rfl en20 (by repeat (first | exact TakeL.nil | (apply TakeL.cons; · repeat (first | exact Take1.head | apply Take1.tail)))) (fun w hw => oneL_any 1 w hw.left.here) rfl ?_ -- t43 hailer/hailerlaw25.one
    rintro ⟨⟩ -
    refine WL.on rfl rfl ?_
    refine WL.callC (xs := [_]) (cap := []) rfl rfl en20 (by repeat (first | exact TakeL.nil | (apply TakeL.cons; · repeat (first | exact Take1.head | apply Take1.tail)))) (fun w hw => oneL_any 2 w hw.left.here) rfl ?_ -- t44 hailer/hailerlaw25.one
    rintro ⟨⟩ -
    refine WL.on rfl rfl ?_
    refine WL.to (To.buildSlice (vs := [rcV (oneF 1), rcV (oneF 2)]) un39 zs46 rfl rfl (by intro v hv; simp at hv; rcases hv with rfl | rfl <;> rfl) (by decide) (by decide)) rfl ?_
    intro b45
    refine WL.view (fun w h => OK.readOnly (h.blkOwn (b := b45) (size := 22) (n := 2) (by repeat (first | exact Take1.head | apply Take1.tail)) (by unfold maxLen; omega) rfl) (by repeat (first | exact Take1.head | apply Take1.tail))) ?_
    refine WL.on rfl rfl ?_
    refine WL.callC (xs := [.tmp 42, .tmp 45, _]) (cap := []) rfl rfl en27 (by repeat (first | exact TakeL.nil | (apply TakeL.cons; · repeat (first | exact Take1.head | apply Take1.tail)))) (fun w hw => areR_any 51 [.pointer (some ⟨bn, 0, none⟩)] own en51 [oneF 1, oneF 2] (wl_ok 2) (.slice (some ⟨b45, 0, none⟩) 2 2) 9 (by omega) (by simp) w hw.left.here) rfl ?_ -- t46 hailer/hailerlaw25.are[hailer/api.Record]
    rintro ⟨⟩ -
    refine WL.y (Yl.pickT rfl rfl) rfl ?_ -- t47
    refine WL.know (t := 47) (b' := true) rfl (by first | rfl | (simp; done) | (simp; omega)) ?_
    refine WL.y (Yl.move rfl) rfl ?_ -- t48
    refine WL.on rfl rfl ?_
    refine WL.y (Yl.move rfl) rfl ?_ -- t49
    refine WL.on rfl rfl ?_
    refine WL.y (Yl.eql rfl rfl) rfl ?_ -- t50
    refine WL.know (t := 50) (b' := true) rfl (by first | rfl | (simp; done) | (simp; omega)) ?_
    refine WL.y (Yl.pickT rfl rfl) rfl ?_ -- t51
    refine WL.y (Yl.move rfl) rfl ?_ -- t52
    refine WL.on rfl rfl ?_
    refine WL.y (Yl.move rfl) rfl ?_ -- t53
    refine WL.know (t := 53) (b' := true) rfl (by first | rfl | (simp; done) | (simp; omega)) ?_
    refine WL.y (Yl.pickT rfl rfl) rfl ?_ -- t54
    refine WL.y (Yl.move rfl) rfl ?_ -- t55
    refine WL.on rfl rfl ?_
    refine WL.y (Yl.move rfl) rfl ?_ -- t56
    refine WL.on rfl rfl ?_
    refine WL.callC (xs := [.tmp 56]) (cap := []) rfl rfl en33 (by repeat (first | exact TakeL.nil | (apply TakeL.cons; · repeat (first | exact Take1.head | apply Take1.tail)))) (fun w hw => lenI_any b29 1 a34 1 c34 w hw.left.here) rfl ?_ -- t57 (*hailer/log.Bounded[int]).Len
    rintro ⟨⟩ -
    refine WL.on rfl rfl ?_
    refine WL.y (Yl.eql rfl rfl) rfl ?_ -- t58
    refine WL.know (t := 58) (b' := true) rfl (by first | rfl | (simp; done) | (simp; omega)) ?_
    refine WL.y (Yl.pickT rfl rfl) rfl ?_ -- t59
    refine WL.y (Yl.assign rfl) rfl ?_ -- t0
    refine WL.nil ?_
    refine WC.ret ?_
    repeat (first | (with_reducible refine peelT ?_) | (with_reducible refine peelB ?_) | (with_reducible refine peelTX ?_) | (with_reducible refine peelBX ?_) | (with_reducible refine peelBN ?_) | (with_reducible refine peelBO rfl ?_))
    exact ret1 (.inr rfl) Try.results8 rfl fun w' h => ⟨(), trivial, rfl, h.sub (by repeat (first | exact TakeL.nil | (apply TakeL.cons; · repeat (first | exact Take1.head | apply Take1.tail))))⟩
end Go.Proofs.Ytpjgmiemamcdhaa
