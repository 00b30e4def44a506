/- LogPlays: the walk. -/
import Derived.Test.YtpjgmiemamcdhaaLogN
namespace Go.Proofs.Ytpjgmiemamcdhaa
open Go Go.RowKit

def RMay (xs : List Rc) : Prop := ∀ x ∈ xs, mayB x = true
theorem appM {xs : List Rc} {r : Rc} (h : RMay xs) : RMay (appF xs r) := by
  unfold appF
  split
  · rename_i hm
    have h2 : RMay ((xs.filter fun x => !pId r x) ++ [r]) := fun x hx => by
      rcases List.mem_append.1 hx with h1 | h1
      · exact h x (List.mem_filter.1 h1).1
      · rw [List.mem_singleton.1 h1]; exact hm
    unfold putF
    split
    · exact h2
    · exact fun x hx => h2 x (List.mem_of_mem_drop hx)
  · exact h
theorem appOk {xs : List Rc} {r : Rc} (h : ROk xs) (hr : r.ok) : ROk (appF xs r) := by
  unfold appF
  split
  · exact (h.filter _).put hr _
  · exact h
theorem appLen {xs : List Rc} {r : Rc} : (appF xs r).length ≤ xs.length + 1 := by
  unfold appF
  split
  · have h1 := putF_len (most := 4096) (xs := xs.filter fun x => !pId r x) (x := r)
    have h2 := List.length_filter_le (fun x => !pId r x) xs
    omega
  · omega
theorem findF_ok {xs : List Rc} (h : ROk xs) (id : List Int) : ((findF xs id).getD Rc.zero).ok := by
  cases hf : findF xs id with
  | none => exact zero_ok
  | some x => exact h x (List.mem_reverse.1 (List.mem_of_find?_eq_some hf))
theorem findF_snoc {xs : List Rc} {j : Nat} {y : Rc} (h : xs[j]? = some y) (id : List Int) : findF (xs.take (j + 1)) id = if decide (y.id = id) then some y else findF (xs.take j) id := by
  unfold findF
  rw [List.take_add_one, h]
  simp only [Option.toList_some, List.reverse_append, List.reverse_cons, List.reverse_nil, List.nil_append, List.cons_append, List.find?_cons]
  cases decide (y.id = id) <;> rfl
theorem query_all {xs : List Rc} (h : ROk xs) (hn : ∀ x ∈ xs, x.en ≠ 18446744073709551615) : queryF 0 18446744073709551615 0 xs = xs.reverse := by
  unfold queryF
  rw [List.filter_eq_self]
  intro x hx
  have hx := List.mem_reverse.1 hx
  have h1 := (h x hx).en
  have h2 := hn x hx
  unfold U64 at h1
  unfold qF
  rw [decide_eq_true (show (0 : Int) ≤ x.en by omega), decide_eq_true (show x.en < 18446744073709551615 by omega), decide_eq_true (rfl : (0 : Int) = 0)]
  rfl
theorem queryOk {xs : List Rc} (h : ROk xs) (f t o : Int) : ROk (queryF f t o xs) := fun x hx => h x (List.mem_reverse.1 (List.mem_filter.1 hx).1)
theorem queryLen (f t o : Int) (xs : List Rc) : (queryF f t o xs).length ≤ xs.length := by
  unfold queryF
  have := List.length_filter_le (qF f t o) xs.reverse
  rwa [List.length_reverse] at this
theorem en_dec (m : Bool) : decide ((if m = true then (0 : Int) else 2) = 0) = m := by cases m <;> rfl

set_option maxRecDepth 100000 in
theorem logPlays_any (ls : List Rc) (v : Value) (f t o left : Int) (hG : ROk ls) (hleft : -9223372036854775808 ≤ left ∧ left ≤ 9223372036854775807) (w : World) (hw : OK w (fpL [rdR v 22 ls.length (vcs rcV ls)]) [rdR v 22 ls.length (vcs rcV ls)] w) :
    Fn Try.prog 4 [v, .int .u64 f, .int .u64 t, .int .u8 o, .int .i64 left] [rdR v 22 ls.length (vcs rcV ls)] w (fun _ : Unit => True) (fun _ => .bool true) (fun _ => []) := by
  obtain ⟨al, cl, rfl, hcl, hml⟩ := (hw.get .head : Rd _ _ _ _ _).form
  refine enterF Try.func4 rfl Try.ntmps4 rfl hw ?_
  refine WC.seq ?_
  refine WC.region ?_
  refine WL.y (Yl.assign rfl) rfl ?_ -- t10
  refine WL.nil ?_
  refine WC.seq ?_
  refine WC.seq ?_
  refine WC.region ?_
  refine WL.callC (xs := []) (cap := []) rfl rfl en8 (by repeat (first | exact TakeL.nil | (apply TakeL.cons; · repeat (first | exact Take1.head | apply Take1.tail)))) (fun w hw => worksL_any w hw.left.here) rfl ?_ -- t31 hailer/hailerlaw25.works
  rintro ⟨⟩ -
  refine WL.y (Yl.not rfl) rfl ?_ -- t32
  refine WL.know (t := 32) (b' := false) rfl (by first | rfl | (simp; done) | (simp; omega)) ?_
  refine WL.nil ?_
  refine WC.condF rfl (by first | rfl | (simp; done) | (simp; omega)) ?_
  refine WC.skip ?_
  refine WC.seq ?_
  refine WC.seq ?_
  refine WC.region ?_
  refine WL.y (Yl.move rfl) rfl ?_ -- t33
  refine WL.y (Yl.len un39 rfl) rfl ?_ -- t34
  refine WL.y (Yl.gtr rfl rfl) rfl ?_ -- t35
  refine WL.nil ?_
  refine WC.condD rfl (fun g35 => ?_) (fun g35 => ?_)
  · refine WC.seq ?_
    refine WC.region ?_
    refine WL.y (Yl.assign rfl) rfl ?_ -- t10
    refine WL.nil ?_
    refine WC.ret ?_
    repeat (first | (with_reducible refine peelT ?_) | (with_reducible refine peelB ?_) | (with_reducible refine peelTX ?_) | (with_reducible refine peelBX ?_) | (with_reducible refine peelBN ?_) | (with_reducible refine peelBO rfl ?_))
    exact ret1 (.inr rfl) Try.results4 rfl fun w' h => ⟨(), trivial, rfl, h.sub (by repeat (first | exact TakeL.nil | (apply TakeL.cons; · repeat (first | exact Take1.head | apply Take1.tail))))⟩
  · refine WC.skip ?_
    refine WC.seq ?_
    refine WC.region ?_
    refine WL.callC (xs := []) (cap := []) rfl rfl en17 (by repeat (first | exact TakeL.nil | (apply TakeL.cons; · repeat (first | exact Take1.head | apply Take1.tail)))) (fun w hw => logNew_any w hw.left.here) rfl ?_ -- t36 hailer/log.New
    rintro ⟨bl, bb⟩ -
    dsimp only [logR, List.cons_append, List.nil_append]
    refine WL.y (Yl.assign rfl) rfl ?_ -- t11
    refine WL.nil ?_
    refine WC.seq ?_
    refine WC.region ?_
    refine WL.y (Yl.assign rfl) rfl ?_ -- t12
    refine WL.nil ?_
    refine WC.seq ?_
    refine WC.seq ?_
    refine WC.region ?_
    have hl : ls.length ≤ 200 := by omega
    refine WL.y (Yl.move rfl) rfl ?_ -- t37
    refine WL.y (Yl.len un39 rfl) rfl ?_ -- t38
    refine WL.y (Yl.move rfl) rfl ?_ -- t39
    refine WL.nil ?_
    refine WC.block ?_
    refine WC.view (fun w h => h.addNil 46 22) ?_
    refine WC.loop (α := Nat × List Rc × (Nat × Nat) × (Option Addr × Nat) × (Option Addr × Nat)) (fun p => [(0, .slice al ls.length cl), (1, .int .u64 f), (2, .int .u64 t), (3, .int .u8 o), (4, .int .i64 left), (11, .pointer (some ⟨p.2.2.1.1, 0, none⟩)), (12, .slice p.2.2.2.2.1 p.2.1.length p.2.2.2.2.2), (37, .slice al ls.length cl), (38, .int .i64 (ls.length : Int)), (39, .int .i64 (p.1 : Int))]) (fun p => [ownR (.slice p.2.2.2.2.1 p.2.1.length p.2.2.2.2.2) 46 22 p.2.1.length (vcs rcV p.2.1), blkR p.2.2.1.1 87 [.pointer (some ⟨p.2.2.1.2, 0, none⟩)], blkR p.2.2.1.2 90 [.slice p.2.2.2.1.1 p.2.1.length p.2.2.2.1.2, .int .i64 4096], ownR (.slice p.2.2.2.1.1 p.2.1.length p.2.2.2.1.2) 46 22 p.2.1.length (vcs rcV p.2.1), rdR (.slice al ls.length cl) 22 ls.length (vcs rcV ls)]) (fun p => p.1 ≤ ls.length ∧ p.2.1.length ≤ p.1 ∧ ROk p.2.1 ∧ RMay p.2.1) (fun p => ls.length - p.1) (0, [], (bl, bb), (none, 0), (none, 0)) ⟨Nat.zero_le _, Nat.le_refl _, (fun x hx => nomatch hx), (fun x hx => nomatch hx)⟩ ⟨(by repeat (first | exact Sub.nil | refine Sub.cons rfl ?_)), _, (by repeat (first | exact TakeL.nil | (apply TakeL.cons; · repeat (first | exact Take1.head | apply Take1.tail))))⟩ ?_
    rintro ⟨j, r, ⟨bl, bb⟩, ⟨ao, ca⟩, ⟨bo, cb⟩⟩ ⟨hj, hr, hRG, hRM⟩
    dsimp only at hj hr hRG hRM ⊢
    refine WC.seq ?_
    refine WC.region ?_
    refine WL.y (Yl.lss rfl rfl) rfl ?_ -- t40
    refine WL.nil ?_
    refine WC.seq ?_
    refine WC.condD rfl (fun g40 => ?_) (fun g40 => ?_)
    · refine WC.skip ?_
      refine WC.seq ?_
      refine WC.block ?_
      refine WC.seq ?_
      refine WC.region ?_
      refine WL.y (Yl.move rfl) rfl ?_ -- t41
      obtain ⟨x, hx0⟩ : ∃ x, ls[j]? = some x := ⟨_, List.getElem?_eq_getElem (by omega)⟩
      have hxo := hG.get hx0
      have h22 := Rc.cells_len hxo.len
      have hil : (ints .u8 x.id).length = 16 := by rw [ints_length, hxo.len]
      have hql := appLen (xs := r) (r := x)
      have hqG := appOk hRG hxo
      have hqM := appM (r := x) hRM
      refine WL.y (Yl.index un39 sz46 rfl rfl (Reads.of RdOf.rd' (by repeat (first | exact Take1.head | apply Take1.tail))) rfl (by omega)) rfl ?_ -- t42
      refine WL.y (Yl.loadV (j := j) (u := x) vtR hG rfl (Reads.of RdOf.rd' (by repeat (first | exact Take1.head | apply Take1.tail))) rfl hx0) rfl ?_
      refine WL.to (To.alloc (cs := Rc.zero.cells) zr46 rfl) rfl ?_ -- t14
      intro b14
      refine WL.y (Yl.assign rfl) rfl ?_ -- t13
      refine WL.sto (Sto.agg sz46 rfl rfl (by repeat (first | exact Take1.head | apply Take1.tail)) (Rc.ones _) h22 (by rfl) (Rc.all (r := Rc.zero) rfl x.cells h22)) (fun _ h => nomatch h) ?_ -- st 1
      refine WL.nil ?_
      refine WC.seq ?_
      refine WC.seq ?_
      refine WC.region ?_
      refine WL.y (Yl.move rfl) rfl ?_ -- t44
      refine WL.y (Yl.move rfl) rfl ?_ -- t45
      refine WL.y (Yl.len un39 rfl) rfl ?_ -- t46
      refine WL.y (Yl.quo rfl rfl (by omega) (i64_quo (by omega) (by omega))) rfl ?_ -- t47
      refine WL.y (Yl.eql rfl rfl) rfl ?_ -- t48
      refine WL.nil ?_
      refine WC.condD rfl (fun g48 => ?_) (fun g48 => ?_)
      · refine WC.seq ?_
        refine WC.region ?_
        refine WL.y (Yl.move rfl) rfl ?_ -- t49
        refine WL.y (Yl.assign rfl) rfl ?_ -- t15
        refine WL.nil ?_
        refine WC.seq ?_
        refine WC.seq ?_
        refine WC.region ?_
        refine WL.y (Yl.move rfl) rfl ?_ -- t50
        refine WL.callC (xs := [.tmp 50]) (cap := []) rfl rfl en18 (by repeat (first | exact TakeL.nil | (apply TakeL.cons; · repeat (first | exact Take1.head | apply Take1.tail)))) (fun w hw => copyL_any bl bb ao ca r hRG (by omega) w (hw.srcB (A := []) (by repeat (first | exact Take1.head | apply Take1.tail))) (hw.srcB (A := []) (by repeat (first | exact Take1.head | apply Take1.tail))) (hw.src (A := []) (RdOf.own (v := .slice ao r.length ca)) (by repeat (first | exact Take1.head | apply Take1.tail))) hw.left.here) rfl ?_ -- t51 (*hailer/log.Log).Copy
        rintro ⟨⟨bl2, bb2⟩, ⟨a2, c2⟩⟩ -
        dsimp only [logR, List.cons_append, List.nil_append]
        refine WL.y (Yl.assign rfl) rfl ?_ -- t11
        refine WL.nil ?_
        refine WC.seq ?_
        refine WC.region ?_
        refine WL.y (Yl.move rfl) rfl ?_ -- t52
        refine WL.y (Yl.nilEq un41 rfl rfl) rfl ?_ -- t53
        refine WL.know (t := 53) (b' := false) rfl (by first | rfl | (simp; done) | (simp; omega)) ?_
        refine WL.nil ?_
        refine WC.condF rfl (by first | rfl | (simp; done) | (simp; omega)) ?_
        refine WC.skip ?_
        refine WC.seq ?_
        refine WC.region ?_
        refine WL.y (Yl.move rfl) rfl ?_ -- t54
        refine WL.callC (xs := [_]) (cap := []) rfl rfl en20 (by repeat (first | exact TakeL.nil | (apply TakeL.cons; · repeat (first | exact Take1.head | apply Take1.tail)))) (fun w hw => oneL_any 77 w hw.left.here) rfl ?_ -- t55 hailer/hailerlaw25.one
        rintro ⟨⟩ -
        refine WL.callC (xs := [.tmp 54, .tmp 55]) (cap := []) rfl rfl en19 (by repeat (first | exact TakeL.nil | (apply TakeL.cons; · repeat (first | exact Take1.head | apply Take1.tail)))) (fun w hw => append_any bl bb ao ca r (oneF 77) hRG (oneF_ok (by omega)) (by omega) w hw.left.here) rfl ?_ -- t56 (*hailer/log.Log).Append
        rintro ⟨a56, c56⟩ -
        dsimp only [logR, List.cons_append, List.nil_append]
        have hal := appLen (xs := r) (r := oneF 77)
        refine WL.nil ?_
        refine WC.region ?_
        refine WL.y (Yl.move rfl) rfl ?_ -- t57
        refine WL.callC (xs := [_]) (cap := []) rfl rfl en20 (by repeat (first | exact TakeL.nil | (apply TakeL.cons; · repeat (first | exact Take1.head | apply Take1.tail)))) (fun w hw => oneL_any 78 w hw.left.here) rfl ?_ -- t58 hailer/hailerlaw25.one
        rintro ⟨⟩ -
        refine WL.callC (xs := [.tmp 57, .tmp 58]) (cap := []) rfl rfl en19 (by repeat (first | exact TakeL.nil | (apply TakeL.cons; · repeat (first | exact Take1.head | apply Take1.tail)))) (fun w hw => append_any bl bb a56 c56 _ (oneF 78) (appOk hRG (oneF_ok (id := 77) (by omega))) (oneF_ok (by omega)) (by omega) w hw.left.here) rfl ?_ -- t59 (*hailer/log.Log).Append
        rintro ⟨a59, c59⟩ -
        dsimp only [logR, List.cons_append, List.nil_append]
        refine WL.nil ?_
        refine WC.seq ?_
        refine WC.region ?_
        refine WL.y (Yl.move rfl) rfl ?_ -- t61
        refine WL.y (Yl.loadN ag46 rfl (by repeat (first | exact Take1.head | apply Take1.tail)) (leB (by rw [h22]; omega)) (Rc.call hxo.len)) rfl ?_ -- t62
        refine WL.callC (xs := [.tmp 61, .tmp 62]) (cap := []) rfl rfl en21 (by repeat (first | exact TakeL.nil | (apply TakeL.cons; · repeat (first | exact Take1.head | apply Take1.tail)))) (fun w hw => rapp_any bo cb r x hRG hxo (by omega) w hw.left.here) rfl ?_ -- t63 hailer/hailerref25.Append
        rintro ⟨a63, c63⟩ -
        dsimp only
        refine WL.y (Yl.move rfl) rfl ?_ -- t60
        refine WL.y (Yl.extract rfl rfl) rfl ?_ -- t64
        refine WL.y (Yl.extract rfl rfl) rfl ?_ -- t65
        refine WL.y (Yl.extract rfl rfl) rfl ?_ -- t66
        refine WL.y (Yl.assign rfl) rfl ?_ -- t16
        refine WL.y (Yl.assign rfl) rfl ?_ -- t17
        refine WL.y (Yl.assign rfl) rfl ?_ -- t18
        refine WL.nil ?_
        refine WC.seq ?_
        refine WC.region ?_
        refine WL.y (Yl.move rfl) rfl ?_ -- t67
        refine WL.y (Yl.assign rfl) rfl ?_ -- t12
        refine WL.nil ?_
        refine WC.seq ?_
        refine WC.seq ?_
        refine WC.region ?_
        refine WL.y (Yl.move rfl) rfl ?_ -- t69
        refine WL.y (Yl.loadN ag46 rfl (by repeat (first | exact Take1.head | apply Take1.tail)) (leB (by rw [h22]; omega)) (Rc.call hxo.len)) rfl ?_ -- t70
        refine WL.callC (xs := [.tmp 69, .tmp 70]) (cap := []) rfl rfl en19 (by repeat (first | exact TakeL.nil | (apply TakeL.cons; · repeat (first | exact Take1.head | apply Take1.tail)))) (fun w hw => append_any bl2 bb2 a2 c2 r x hRG hxo (by omega) w hw.left.here) rfl ?_ -- t71 (*hailer/log.Log).Append
        rintro ⟨a71, c71⟩ -
        dsimp only [logR, List.cons_append, List.nil_append]
        refine WL.y (Yl.move rfl) rfl ?_ -- t68
        refine WL.y (Yl.extract rfl rfl) rfl ?_ -- t72
        refine WL.y (Yl.extract rfl rfl) rfl ?_ -- t73
        refine WL.y (Yl.assign rfl) rfl ?_ -- t19
        refine WL.y (Yl.assign rfl) rfl ?_ -- t20
        refine WL.nil ?_
        refine WC.seq ?_
        refine WC.region ?_
        refine WL.y (Yl.move rfl) rfl ?_ -- t74
        refine WL.y (Yl.move rfl) rfl ?_ -- t75
        refine WL.y (Yl.bNe un4 rfl rfl) rfl ?_ -- t76
        refine WL.know (t := 76) (b' := false) rfl (by simp) ?_
        refine WL.y (Yl.move rfl) rfl ?_ -- t77
        refine WL.on rfl rfl ?_
        refine WL.y (Yl.move rfl) rfl ?_ -- t78
        refine WL.on rfl rfl ?_
        refine WL.y (Yl.eql rfl rfl) rfl ?_ -- t79
        refine WL.on rfl rfl ?_
        refine WL.y (Yl.move rfl) rfl ?_ -- t80
        refine WL.on rfl rfl ?_
        refine WL.y (Yl.bNe un4 rfl rfl) rfl ?_ -- t81
        refine WL.know (t := 81) (b' := false) rfl (by rw [en_dec]; simp) ?_
        refine WL.y (Yl.pickF rfl rfl) rfl ?_ -- t82
        refine WL.y (Yl.move rfl) rfl ?_ -- t83
        refine WL.on rfl rfl ?_
        refine WL.y (Yl.move rfl) rfl ?_ -- t84
        refine WL.on rfl rfl ?_
        refine WL.y (Yl.not rfl) rfl ?_ -- t85
        refine WL.on rfl rfl ?_
        refine WL.y (Yl.move rfl) rfl ?_ -- t86
        refine WL.both (t := 86) rfl (fun g86 => ?_) (fun g86 => ?_)
        · refine WL.on rfl rfl ?_
          refine WL.y (Yl.move rfl) rfl ?_ -- t87
          refine WL.on rfl rfl ?_
          refine WL.y (Yl.neq rfl rfl) rfl ?_ -- t88
          refine WL.know (t := 88) (b' := false) rfl (by have g := g86; simp only [Bool.not_eq_true'] at g; rw [g]; rfl) ?_
          refine WL.on rfl rfl ?_
          refine WL.y (Yl.pickT rfl rfl) rfl ?_ -- t89
          refine WL.y (Yl.pickF rfl rfl) rfl ?_ -- t90
          refine WL.nil ?_
          refine WC.condF rfl (by first | rfl | (simp; done) | (simp; omega)) ?_
          refine WC.skip ?_
          refine WC.seq ?_
          refine WC.region ?_
          obtain ⟨q, hqq⟩ : ∃ q, appF r x = q := ⟨_, rfl⟩
          rw [hqq] at hql hqG hqM ⊢
          have hfo := findF_ok hqG x.id
          have hf22 := Rc.cells_len hfo.len
          refine WL.y (Yl.move rfl) rfl ?_ -- t92
          refine WL.y (Yl.field fo46_0 rfl) rfl ?_ -- t93
          refine WL.y (Yl.loadN ag44 rfl (by repeat (first | exact Take1.head | apply Take1.tail)) (leB (by rw [h22]; omega)) (Rc.cid hxo.len)) rfl ?_ -- t94
          refine WL.callRo (xs := [.tmp 92, .tmp 94]) (cap := []) (A := [blkR bl2 87 [.pointer (some ⟨bb2, 0, none⟩)], blkR bb2 90 [.slice a71 q.length c71, .int .i64 4096], ownR (.slice a71 q.length c71) 46 22 q.length (vcs rcV q)]) rfl rfl en22 (by repeat (first | exact TakeL.nil | (apply TakeL.cons; · repeat (first | exact Take1.head | apply Take1.tail)))) (fun w hw => findL_any bl2 bb2 a71 c71 q hqG (by omega) x.id hxo.len hxo.id w hw.left.here) rfl ?_
          rintro ⟨⟩ -
          refine WL.y (Yl.move rfl) rfl ?_ -- t91
          refine WL.y (Yl.extract rfl rfl) rfl ?_ -- t96
          refine WL.y (Yl.extract rfl rfl) rfl ?_ -- t97
          refine WL.to (To.alloc (cs := Rc.zero.cells) zr46 rfl) rfl ?_ -- t21
          intro b21
          refine WL.sto (Sto.agg sz46 rfl rfl (by repeat (first | exact Take1.head | apply Take1.tail)) (Rc.ones _) hf22 (by rfl) (Rc.all (r := Rc.zero) rfl _ hf22)) (fun _ h => nomatch h) ?_ -- st 2
          refine WL.y (Yl.assign rfl) rfl ?_ -- t22
          refine WL.nil ?_
          refine WC.seq ?_
          refine WC.region ?_
          refine WL.y (Yl.build rfl (cs := Rc.zero.cells) (fun _ => by kernel_rfl)) rfl ?_ -- t98
          refine WL.to (To.alloc (cs := Rc.zero.cells) zr46 rfl) rfl ?_ -- t23
          intro b23
          refine WL.sto (Sto.agg sz46 rfl rfl (by repeat (first | exact Take1.head | apply Take1.tail)) (Rc.ones _) rfl (by rfl) (Rc.all (r := Rc.zero) rfl Rc.zero.cells rfl)) (fun _ h => nomatch h) ?_ -- st 3
          refine WL.y (Yl.assign rfl) rfl ?_ -- t24
          refine WL.nil ?_
          refine WC.seq ?_
          refine WC.seq ?_
          refine WC.region ?_
          refine WL.y (Yl.move rfl) rfl ?_ -- t99
          refine WL.y (Yl.len un39 rfl) rfl ?_ -- t100
          refine WL.y (Yl.move rfl) rfl ?_ -- t101
          refine WL.nil ?_
          refine WC.block ?_
          refine WC.loop (α := Nat) (fun i => [(0, .slice al ls.length cl), (1, .int .u64 f), (2, .int .u64 t), (3, .int .u8 o), (4, .int .i64 left), (11, .pointer (some ⟨bl2, 0, none⟩)), (12, .slice a63 q.length c63), (14, .pointer (some ⟨b14, 0, none⟩)), (21, .pointer (some ⟨b21, 0, none⟩)), (22, .bool (findF q x.id).isSome), (23, .pointer (some ⟨b23, 0, none⟩)), (24, .bool (findF (q.take i) x.id).isSome), (37, .slice al ls.length cl), (38, .int .i64 (ls.length : Int)), (39, .int .i64 (j : Int)), (99, .slice a63 q.length c63), (100, .int .i64 (q.length : Int)), (101, .int .i64 (i : Int))]) (fun i => [blkR b23 46 ((findF (q.take i) x.id).getD Rc.zero).cells, blkR b21 46 ((findF q x.id).getD Rc.zero).cells, blkR b14 46 x.cells, ownR (.slice a63 q.length c63) 46 22 q.length (vcs rcV q), blkR bl2 87 [.pointer (some ⟨bb2, 0, none⟩)], blkR bb2 90 [.slice a71 q.length c71, .int .i64 4096], ownR (.slice a71 q.length c71) 46 22 q.length (vcs rcV q), rdR (.slice al ls.length cl) 22 ls.length (vcs rcV ls)]) (fun i => i ≤ q.length) (fun i => q.length - i) 0 (Nat.zero_le _) ⟨(by repeat (first | exact Sub.nil | refine Sub.cons rfl ?_)), _, (by repeat (first | exact TakeL.nil | (apply TakeL.cons; · repeat (first | exact Take1.head | apply Take1.tail))))⟩ ?_
          intro i hi
          refine WC.seq ?_
          refine WC.region ?_
          refine WL.y (Yl.lss rfl rfl) rfl ?_ -- t102
          refine WL.nil ?_
          refine WC.seq ?_
          refine WC.condD rfl (fun g102 => ?_) (fun g102 => ?_)
          · refine WC.skip ?_
            refine WC.seq ?_
            refine WC.block ?_
            refine WC.seq ?_
            refine WC.region ?_
            obtain ⟨y, hy0⟩ : ∃ y, q[i]? = some y := ⟨_, List.getElem?_eq_getElem (by omega)⟩
            have hyo := hqG.get hy0
            have hy22 := Rc.cells_len hyo.len
            have hfs := findF_snoc hy0 x.id
            have hgo := findF_ok (fun z hz => hqG z (List.mem_of_mem_take hz) : ROk (q.take i)) x.id
            refine WL.y (Yl.index un39 sz46 rfl rfl (Reads.of (RdOf.own (v := .slice a63 q.length c63)) (by repeat (first | exact Take1.head | apply Take1.tail))) rfl (by omega)) rfl ?_ -- t103
            refine WL.y (Yl.loadV (j := i) (u := y) vtR hqG rfl (Reads.of (RdOf.own (v := .slice a63 q.length c63)) (by repeat (first | exact Take1.head | apply Take1.tail))) rfl hy0) rfl ?_
            refine WL.to (To.alloc (cs := Rc.zero.cells) zr46 rfl) rfl ?_ -- t26
            intro b26
            refine WL.sto (Sto.agg sz46 rfl rfl (by repeat (first | exact Take1.head | apply Take1.tail)) (Rc.ones _) hy22 (by rfl) (Rc.all (r := Rc.zero) rfl y.cells hy22)) (fun _ h => nomatch h) ?_ -- st 4
            refine WL.nil ?_
            refine WC.seq ?_
            refine WC.region ?_
            refine WL.y (Yl.field fo46_0 rfl) rfl ?_ -- t105
            refine WL.y (Yl.loadN ag44 rfl (by repeat (first | exact Take1.head | apply Take1.tail)) (leB (by rw [hy22]; omega)) (Rc.cid hyo.len)) rfl ?_ -- t106
            refine WL.y (Yl.field fo46_0 rfl) rfl ?_ -- t107
            refine WL.y (Yl.loadN ag44 rfl (by repeat (first | exact Take1.head | apply Take1.tail)) (leB (by rw [h22]; omega)) (Rc.cid hxo.len)) rfl ?_ -- t108
            refine WL.y (Yl.eqA flId rfl rfl (fitsId hyo.len hyo.id) (fitsId hxo.len hxo.id)) rfl ?_
            rw [eqV_ints]
            refine WL.nil ?_
            refine WC.cond rfl (fun g109 => ?_) (fun g109 => ?_)
            · refine WC.region ?_
              refine WL.y (Yl.loadN ag46 rfl (by repeat (first | exact Take1.head | apply Take1.tail)) (leB (by rw [hy22]; omega)) (Rc.call hyo.len)) rfl ?_ -- t110
              refine WL.sto (Sto.agg sz46 rfl rfl (by repeat (first | exact Take1.head | apply Take1.tail)) (Rc.ones _) hy22 (leB (by rw [Rc.cells_len hgo.len]; omega)) (Rc.all hgo.len y.cells hy22)) (fun _ h => nomatch h) ?_ -- st 5
              refine WL.y (Yl.assign rfl) rfl ?_ -- t24
              refine WL.nil ?_
              refine WC.region ?_
              refine WL.y (Yl.add rfl rfl (IntWalk.i64_in _ (by omega))) rfl ?_ -- t111
              refine WL.y (Yl.move rfl) rfl ?_ -- t101
              refine WL.nil ?_
              first | (have hq9 := hfs; rw [g109, if_pos rfl] at hq9; refine ⟨rfl, i + 1, by omega, by omega, ?_⟩; rw [hq9]; exact ⟨(by repeat (first | exact Sub.nil | refine Sub.cons rfl ?_)), _, (by repeat (first | exact TakeL.nil | (apply TakeL.cons; · repeat (first | exact Take1.head | apply Take1.tail))))⟩) | (have hq9 := hfs; rw [g109, if_neg (by simp)] at hq9; refine ⟨rfl, i + 1, by omega, by omega, ?_⟩; rw [hq9]; exact ⟨(by repeat (first | exact Sub.nil | refine Sub.cons rfl ?_)), _, (by repeat (first | exact TakeL.nil | (apply TakeL.cons; · repeat (first | exact Take1.head | apply Take1.tail))))⟩)
            · refine WC.skip ?_
              refine WC.region ?_
              refine WL.y (Yl.add rfl rfl (IntWalk.i64_in _ (by omega))) rfl ?_ -- t111
              refine WL.y (Yl.move rfl) rfl ?_ -- t101
              refine WL.nil ?_
              first | (have hq9 := hfs; rw [g109, if_pos rfl] at hq9; refine ⟨rfl, i + 1, by omega, by omega, ?_⟩; rw [hq9]; exact ⟨(by repeat (first | exact Sub.nil | refine Sub.cons rfl ?_)), _, (by repeat (first | exact TakeL.nil | (apply TakeL.cons; · repeat (first | exact Take1.head | apply Take1.tail))))⟩) | (have hq9 := hfs; rw [g109, if_neg (by simp)] at hq9; refine ⟨rfl, i + 1, by omega, by omega, ?_⟩; rw [hq9]; exact ⟨(by repeat (first | exact Sub.nil | refine Sub.cons rfl ?_)), _, (by repeat (first | exact TakeL.nil | (apply TakeL.cons; · repeat (first | exact Take1.head | apply Take1.tail))))⟩)
          · refine WC.exit ?_
            refine WC.seq ?_
            refine WC.region ?_
            have hiq : i = q.length := by omega
            subst hiq
            rw [List.take_length]
            refine WL.y (Yl.loadN ag46 rfl (by repeat (first | exact Take1.head | apply Take1.tail)) (leB (by rw [hf22]; omega)) (Rc.call hfo.len)) rfl ?_ -- t112
            refine WL.y (Yl.loadN ag46 rfl (by repeat (first | exact Take1.head | apply Take1.tail)) (leB (by rw [hf22]; omega)) (Rc.call hfo.len)) rfl ?_ -- t113
            refine WL.y (Yl.neA flRec rfl rfl hfo.fits hfo.fits) rfl ?_
            refine WL.know (t := 114) (b' := false) rfl (by simp [eqV_self]) ?_
            refine WL.y (Yl.move rfl) rfl ?_ -- t115
            refine WL.on rfl rfl ?_
            refine WL.y (Yl.move rfl) rfl ?_ -- t116
            refine WL.on rfl rfl ?_
            refine WL.y (Yl.move rfl) rfl ?_ -- t117
            refine WL.on rfl rfl ?_
            refine WL.y (Yl.bNe un4 rfl rfl) rfl ?_ -- t118
            refine WL.know (t := 118) (b' := false) rfl (by simp) ?_
            refine WL.y (Yl.pickF rfl rfl) rfl ?_ -- t119
            refine WL.nil ?_
            refine WC.condF rfl (by first | rfl | (simp; done) | (simp; omega)) ?_
            refine WC.skip ?_
            refine WC.region ?_
            refine WL.y (Yl.add rfl rfl (IntWalk.i64_in _ (by omega))) rfl ?_ -- t120
            refine WL.y (Yl.move rfl) rfl ?_ -- t39
            refine WL.nil ?_
            exact ⟨rfl, (j + 1, q, (bl2, bb2), (a71, c71), (a63, c63)), ⟨by dsimp only; omega, by dsimp only; omega, hqG, hqM⟩, by dsimp only; omega, (by repeat (first | exact Sub.nil | refine Sub.cons rfl ?_)), _, (by repeat (first | exact TakeL.nil | (apply TakeL.cons; · repeat (first | exact Take1.head | apply Take1.tail))))⟩
        · refine WL.off rfl rfl rfl rfl ?_ -- t87
          refine WL.off rfl rfl rfl rfl ?_ -- t88
          refine WL.on rfl rfl ?_
          refine WL.y (Yl.pickF rfl rfl) rfl ?_ -- t89
          refine WL.y (Yl.pickF rfl rfl) rfl ?_ -- t90
          refine WL.nil ?_
          refine WC.condF rfl (by first | rfl | (simp; done) | (simp; omega)) ?_
          refine WC.skip ?_
          refine WC.seq ?_
          refine WC.region ?_
          obtain ⟨q, hqq⟩ : ∃ q, appF r x = q := ⟨_, rfl⟩
          rw [hqq] at hql hqG hqM ⊢
          have hfo := findF_ok hqG x.id
          have hf22 := Rc.cells_len hfo.len
          refine WL.y (Yl.move rfl) rfl ?_ -- t92
          refine WL.y (Yl.field fo46_0 rfl) rfl ?_ -- t93
          refine WL.y (Yl.loadN ag44 rfl (by repeat (first | exact Take1.head | apply Take1.tail)) (leB (by rw [h22]; omega)) (Rc.cid hxo.len)) rfl ?_ -- t94
          refine WL.callRo (xs := [.tmp 92, .tmp 94]) (cap := []) (A := [blkR bl2 87 [.pointer (some ⟨bb2, 0, none⟩)], blkR bb2 90 [.slice a71 q.length c71, .int .i64 4096], ownR (.slice a71 q.length c71) 46 22 q.length (vcs rcV q)]) rfl rfl en22 (by repeat (first | exact TakeL.nil | (apply TakeL.cons; · repeat (first | exact Take1.head | apply Take1.tail)))) (fun w hw => findL_any bl2 bb2 a71 c71 q hqG (by omega) x.id hxo.len hxo.id w hw.left.here) rfl ?_
          rintro ⟨⟩ -
          refine WL.y (Yl.move rfl) rfl ?_ -- t91
          refine WL.y (Yl.extract rfl rfl) rfl ?_ -- t96
          refine WL.y (Yl.extract rfl rfl) rfl ?_ -- t97
          refine WL.to (To.alloc (cs := Rc.zero.cells) zr46 rfl) rfl ?_ -- t21
          intro b21
          refine WL.sto (Sto.agg sz46 rfl rfl (by repeat (first | exact Take1.head | apply Take1.tail)) (Rc.ones _) hf22 (by rfl) (Rc.all (r := Rc.zero) rfl _ hf22)) (fun _ h => nomatch h) ?_ -- st 2
          refine WL.y (Yl.assign rfl) rfl ?_ -- t22
          refine WL.nil ?_
          refine WC.seq ?_
          refine WC.region ?_
          refine WL.y (Yl.build rfl (cs := Rc.zero.cells) (fun _ => by kernel_rfl)) rfl ?_ -- t98
          refine WL.to (To.alloc (cs := Rc.zero.cells) zr46 rfl) rfl ?_ -- t23
          intro b23
          refine WL.sto (Sto.agg sz46 rfl rfl (by repeat (first | exact Take1.head | apply Take1.tail)) (Rc.ones _) rfl (by rfl) (Rc.all (r := Rc.zero) rfl Rc.zero.cells rfl)) (fun _ h => nomatch h) ?_ -- st 3
          refine WL.y (Yl.assign rfl) rfl ?_ -- t24
          refine WL.nil ?_
          refine WC.seq ?_
          refine WC.seq ?_
          refine WC.region ?_
          refine WL.y (Yl.move rfl) rfl ?_ -- t99
          refine WL.y (Yl.len un39 rfl) rfl ?_ -- t100
          refine WL.y (Yl.move rfl) rfl ?_ -- t101
          refine WL.nil ?_
          refine WC.block ?_
          refine WC.loop (α := Nat) (fun i => [(0, .slice al ls.length cl), (1, .int .u64 f), (2, .int .u64 t), (3, .int .u8 o), (4, .int .i64 left), (11, .pointer (some ⟨bl2, 0, none⟩)), (12, .slice a63 q.length c63), (14, .pointer (some ⟨b14, 0, none⟩)), (21, .pointer (some ⟨b21, 0, none⟩)), (22, .bool (findF q x.id).isSome), (23, .pointer (some ⟨b23, 0, none⟩)), (24, .bool (findF (q.take i) x.id).isSome), (37, .slice al ls.length cl), (38, .int .i64 (ls.length : Int)), (39, .int .i64 (j : Int)), (99, .slice a63 q.length c63), (100, .int .i64 (q.length : Int)), (101, .int .i64 (i : Int))]) (fun i => [blkR b23 46 ((findF (q.take i) x.id).getD Rc.zero).cells, blkR b21 46 ((findF q x.id).getD Rc.zero).cells, blkR b14 46 x.cells, ownR (.slice a63 q.length c63) 46 22 q.length (vcs rcV q), blkR bl2 87 [.pointer (some ⟨bb2, 0, none⟩)], blkR bb2 90 [.slice a71 q.length c71, .int .i64 4096], ownR (.slice a71 q.length c71) 46 22 q.length (vcs rcV q), rdR (.slice al ls.length cl) 22 ls.length (vcs rcV ls)]) (fun i => i ≤ q.length) (fun i => q.length - i) 0 (Nat.zero_le _) ⟨(by repeat (first | exact Sub.nil | refine Sub.cons rfl ?_)), _, (by repeat (first | exact TakeL.nil | (apply TakeL.cons; · repeat (first | exact Take1.head | apply Take1.tail))))⟩ ?_
          intro i hi
          refine WC.seq ?_
          refine WC.region ?_
          refine WL.y (Yl.lss rfl rfl) rfl ?_ -- t102
          refine WL.nil ?_
          refine WC.seq ?_
          refine WC.condD rfl (fun g102 => ?_) (fun g102 => ?_)
          · refine WC.skip ?_
            refine WC.seq ?_
            refine WC.block ?_
            refine WC.seq ?_
            refine WC.region ?_
            obtain ⟨y, hy0⟩ : ∃ y, q[i]? = some y := ⟨_, List.getElem?_eq_getElem (by omega)⟩
            have hyo := hqG.get hy0
            have hy22 := Rc.cells_len hyo.len
            have hfs := findF_snoc hy0 x.id
            have hgo := findF_ok (fun z hz => hqG z (List.mem_of_mem_take hz) : ROk (q.take i)) x.id
            refine WL.y (Yl.index un39 sz46 rfl rfl (Reads.of (RdOf.own (v := .slice a63 q.length c63)) (by repeat (first | exact Take1.head | apply Take1.tail))) rfl (by omega)) rfl ?_ -- t103
            refine WL.y (Yl.loadV (j := i) (u := y) vtR hqG rfl (Reads.of (RdOf.own (v := .slice a63 q.length c63)) (by repeat (first | exact Take1.head | apply Take1.tail))) rfl hy0) rfl ?_
            refine WL.to (To.alloc (cs := Rc.zero.cells) zr46 rfl) rfl ?_ -- t26
            intro b26
            refine WL.sto (Sto.agg sz46 rfl rfl (by repeat (first | exact Take1.head | apply Take1.tail)) (Rc.ones _) hy22 (by rfl) (Rc.all (r := Rc.zero) rfl y.cells hy22)) (fun _ h => nomatch h) ?_ -- st 4
            refine WL.nil ?_
            refine WC.seq ?_
            refine WC.region ?_
            refine WL.y (Yl.field fo46_0 rfl) rfl ?_ -- t105
            refine WL.y (Yl.loadN ag44 rfl (by repeat (first | exact Take1.head | apply Take1.tail)) (leB (by rw [hy22]; omega)) (Rc.cid hyo.len)) rfl ?_ -- t106
            refine WL.y (Yl.field fo46_0 rfl) rfl ?_ -- t107
            refine WL.y (Yl.loadN ag44 rfl (by repeat (first | exact Take1.head | apply Take1.tail)) (leB (by rw [h22]; omega)) (Rc.cid hxo.len)) rfl ?_ -- t108
            refine WL.y (Yl.eqA flId rfl rfl (fitsId hyo.len hyo.id) (fitsId hxo.len hxo.id)) rfl ?_
            rw [eqV_ints]
            refine WL.nil ?_
            refine WC.cond rfl (fun g109 => ?_) (fun g109 => ?_)
            · refine WC.region ?_
              refine WL.y (Yl.loadN ag46 rfl (by repeat (first | exact Take1.head | apply Take1.tail)) (leB (by rw [hy22]; omega)) (Rc.call hyo.len)) rfl ?_ -- t110
              refine WL.sto (Sto.agg sz46 rfl rfl (by repeat (first | exact Take1.head | apply Take1.tail)) (Rc.ones _) hy22 (leB (by rw [Rc.cells_len hgo.len]; omega)) (Rc.all hgo.len y.cells hy22)) (fun _ h => nomatch h) ?_ -- st 5
              refine WL.y (Yl.assign rfl) rfl ?_ -- t24
              refine WL.nil ?_
              refine WC.region ?_
              refine WL.y (Yl.add rfl rfl (IntWalk.i64_in _ (by omega))) rfl ?_ -- t111
              refine WL.y (Yl.move rfl) rfl ?_ -- t101
              refine WL.nil ?_
              first | (have hq9 := hfs; rw [g109, if_pos rfl] at hq9; refine ⟨rfl, i + 1, by omega, by omega, ?_⟩; rw [hq9]; exact ⟨(by repeat (first | exact Sub.nil | refine Sub.cons rfl ?_)), _, (by repeat (first | exact TakeL.nil | (apply TakeL.cons; · repeat (first | exact Take1.head | apply Take1.tail))))⟩) | (have hq9 := hfs; rw [g109, if_neg (by simp)] at hq9; refine ⟨rfl, i + 1, by omega, by omega, ?_⟩; rw [hq9]; exact ⟨(by repeat (first | exact Sub.nil | refine Sub.cons rfl ?_)), _, (by repeat (first | exact TakeL.nil | (apply TakeL.cons; · repeat (first | exact Take1.head | apply Take1.tail))))⟩)
            · refine WC.skip ?_
              refine WC.region ?_
              refine WL.y (Yl.add rfl rfl (IntWalk.i64_in _ (by omega))) rfl ?_ -- t111
              refine WL.y (Yl.move rfl) rfl ?_ -- t101
              refine WL.nil ?_
              first | (have hq9 := hfs; rw [g109, if_pos rfl] at hq9; refine ⟨rfl, i + 1, by omega, by omega, ?_⟩; rw [hq9]; exact ⟨(by repeat (first | exact Sub.nil | refine Sub.cons rfl ?_)), _, (by repeat (first | exact TakeL.nil | (apply TakeL.cons; · repeat (first | exact Take1.head | apply Take1.tail))))⟩) | (have hq9 := hfs; rw [g109, if_neg (by simp)] at hq9; refine ⟨rfl, i + 1, by omega, by omega, ?_⟩; rw [hq9]; exact ⟨(by repeat (first | exact Sub.nil | refine Sub.cons rfl ?_)), _, (by repeat (first | exact TakeL.nil | (apply TakeL.cons; · repeat (first | exact Take1.head | apply Take1.tail))))⟩)
          · refine WC.exit ?_
            refine WC.seq ?_
            refine WC.region ?_
            have hiq : i = q.length := by omega
            subst hiq
            rw [List.take_length]
            refine WL.y (Yl.loadN ag46 rfl (by repeat (first | exact Take1.head | apply Take1.tail)) (leB (by rw [hf22]; omega)) (Rc.call hfo.len)) rfl ?_ -- t112
            refine WL.y (Yl.loadN ag46 rfl (by repeat (first | exact Take1.head | apply Take1.tail)) (leB (by rw [hf22]; omega)) (Rc.call hfo.len)) rfl ?_ -- t113
            refine WL.y (Yl.neA flRec rfl rfl hfo.fits hfo.fits) rfl ?_
            refine WL.know (t := 114) (b' := false) rfl (by simp [eqV_self]) ?_
            refine WL.y (Yl.move rfl) rfl ?_ -- t115
            refine WL.on rfl rfl ?_
            refine WL.y (Yl.move rfl) rfl ?_ -- t116
            refine WL.on rfl rfl ?_
            refine WL.y (Yl.move rfl) rfl ?_ -- t117
            refine WL.on rfl rfl ?_
            refine WL.y (Yl.bNe un4 rfl rfl) rfl ?_ -- t118
            refine WL.know (t := 118) (b' := false) rfl (by simp) ?_
            refine WL.y (Yl.pickF rfl rfl) rfl ?_ -- t119
            refine WL.nil ?_
            refine WC.condF rfl (by first | rfl | (simp; done) | (simp; omega)) ?_
            refine WC.skip ?_
            refine WC.region ?_
            refine WL.y (Yl.add rfl rfl (IntWalk.i64_in _ (by omega))) rfl ?_ -- t120
            refine WL.y (Yl.move rfl) rfl ?_ -- t39
            refine WL.nil ?_
            exact ⟨rfl, (j + 1, q, (bl2, bb2), (a71, c71), (a63, c63)), ⟨by dsimp only; omega, by dsimp only; omega, hqG, hqM⟩, by dsimp only; omega, (by repeat (first | exact Sub.nil | refine Sub.cons rfl ?_)), _, (by repeat (first | exact TakeL.nil | (apply TakeL.cons; · repeat (first | exact Take1.head | apply Take1.tail))))⟩
      · refine WC.skip ?_
        refine WC.seq ?_
        refine WC.region ?_
        refine WL.y (Yl.move rfl) rfl ?_ -- t61
        refine WL.y (Yl.loadN ag46 rfl (by repeat (first | exact Take1.head | apply Take1.tail)) (leB (by rw [h22]; omega)) (Rc.call hxo.len)) rfl ?_ -- t62
        refine WL.callC (xs := [.tmp 61, .tmp 62]) (cap := []) rfl rfl en21 (by repeat (first | exact TakeL.nil | (apply TakeL.cons; · repeat (first | exact Take1.head | apply Take1.tail)))) (fun w hw => rapp_any bo cb r x hRG hxo (by omega) w hw.left.here) rfl ?_ -- t63 hailer/hailerref25.Append
        rintro ⟨a63, c63⟩ -
        dsimp only
        refine WL.y (Yl.move rfl) rfl ?_ -- t60
        refine WL.y (Yl.extract rfl rfl) rfl ?_ -- t64
        refine WL.y (Yl.extract rfl rfl) rfl ?_ -- t65
        refine WL.y (Yl.extract rfl rfl) rfl ?_ -- t66
        refine WL.y (Yl.assign rfl) rfl ?_ -- t16
        refine WL.y (Yl.assign rfl) rfl ?_ -- t17
        refine WL.y (Yl.assign rfl) rfl ?_ -- t18
        refine WL.nil ?_
        refine WC.seq ?_
        refine WC.region ?_
        refine WL.y (Yl.move rfl) rfl ?_ -- t67
        refine WL.y (Yl.assign rfl) rfl ?_ -- t12
        refine WL.nil ?_
        refine WC.seq ?_
        refine WC.seq ?_
        refine WC.region ?_
        refine WL.y (Yl.move rfl) rfl ?_ -- t69
        refine WL.y (Yl.loadN ag46 rfl (by repeat (first | exact Take1.head | apply Take1.tail)) (leB (by rw [h22]; omega)) (Rc.call hxo.len)) rfl ?_ -- t70
        refine WL.callC (xs := [.tmp 69, .tmp 70]) (cap := []) rfl rfl en19 (by repeat (first | exact TakeL.nil | (apply TakeL.cons; · repeat (first | exact Take1.head | apply Take1.tail)))) (fun w hw => append_any bl bb ao ca r x hRG hxo (by omega) w hw.left.here) rfl ?_ -- t71 (*hailer/log.Log).Append
        rintro ⟨a71, c71⟩ -
        dsimp only [logR, List.cons_append, List.nil_append]
        refine WL.y (Yl.move rfl) rfl ?_ -- t68
        refine WL.y (Yl.extract rfl rfl) rfl ?_ -- t72
        refine WL.y (Yl.extract rfl rfl) rfl ?_ -- t73
        refine WL.y (Yl.assign rfl) rfl ?_ -- t19
        refine WL.y (Yl.assign rfl) rfl ?_ -- t20
        refine WL.nil ?_
        refine WC.seq ?_
        refine WC.region ?_
        refine WL.y (Yl.move rfl) rfl ?_ -- t74
        refine WL.y (Yl.move rfl) rfl ?_ -- t75
        refine WL.y (Yl.bNe un4 rfl rfl) rfl ?_ -- t76
        refine WL.know (t := 76) (b' := false) rfl (by simp) ?_
        refine WL.y (Yl.move rfl) rfl ?_ -- t77
        refine WL.on rfl rfl ?_
        refine WL.y (Yl.move rfl) rfl ?_ -- t78
        refine WL.on rfl rfl ?_
        refine WL.y (Yl.eql rfl rfl) rfl ?_ -- t79
        refine WL.on rfl rfl ?_
        refine WL.y (Yl.move rfl) rfl ?_ -- t80
        refine WL.on rfl rfl ?_
        refine WL.y (Yl.bNe un4 rfl rfl) rfl ?_ -- t81
        refine WL.know (t := 81) (b' := false) rfl (by rw [en_dec]; simp) ?_
        refine WL.y (Yl.pickF rfl rfl) rfl ?_ -- t82
        refine WL.y (Yl.move rfl) rfl ?_ -- t83
        refine WL.on rfl rfl ?_
        refine WL.y (Yl.move rfl) rfl ?_ -- t84
        refine WL.on rfl rfl ?_
        refine WL.y (Yl.not rfl) rfl ?_ -- t85
        refine WL.on rfl rfl ?_
        refine WL.y (Yl.move rfl) rfl ?_ -- t86
        refine WL.both (t := 86) rfl (fun g86 => ?_) (fun g86 => ?_)
        · refine WL.on rfl rfl ?_
          refine WL.y (Yl.move rfl) rfl ?_ -- t87
          refine WL.on rfl rfl ?_
          refine WL.y (Yl.neq rfl rfl) rfl ?_ -- t88
          refine WL.know (t := 88) (b' := false) rfl (by have g := g86; simp only [Bool.not_eq_true'] at g; rw [g]; rfl) ?_
          refine WL.on rfl rfl ?_
          refine WL.y (Yl.pickT rfl rfl) rfl ?_ -- t89
          refine WL.y (Yl.pickF rfl rfl) rfl ?_ -- t90
          refine WL.nil ?_
          refine WC.condF rfl (by first | rfl | (simp; done) | (simp; omega)) ?_
          refine WC.skip ?_
          refine WC.seq ?_
          refine WC.region ?_
          obtain ⟨q, hqq⟩ : ∃ q, appF r x = q := ⟨_, rfl⟩
          rw [hqq] at hql hqG hqM ⊢
          have hfo := findF_ok hqG x.id
          have hf22 := Rc.cells_len hfo.len
          refine WL.y (Yl.move rfl) rfl ?_ -- t92
          refine WL.y (Yl.field fo46_0 rfl) rfl ?_ -- t93
          refine WL.y (Yl.loadN ag44 rfl (by repeat (first | exact Take1.head | apply Take1.tail)) (leB (by rw [h22]; omega)) (Rc.cid hxo.len)) rfl ?_ -- t94
          refine WL.callRo (xs := [.tmp 92, .tmp 94]) (cap := []) (A := [blkR bl 87 [.pointer (some ⟨bb, 0, none⟩)], blkR bb 90 [.slice a71 q.length c71, .int .i64 4096], ownR (.slice a71 q.length c71) 46 22 q.length (vcs rcV q)]) rfl rfl en22 (by repeat (first | exact TakeL.nil | (apply TakeL.cons; · repeat (first | exact Take1.head | apply Take1.tail)))) (fun w hw => findL_any bl bb a71 c71 q hqG (by omega) x.id hxo.len hxo.id w hw.left.here) rfl ?_
          rintro ⟨⟩ -
          refine WL.y (Yl.move rfl) rfl ?_ -- t91
          refine WL.y (Yl.extract rfl rfl) rfl ?_ -- t96
          refine WL.y (Yl.extract rfl rfl) rfl ?_ -- t97
          refine WL.to (To.alloc (cs := Rc.zero.cells) zr46 rfl) rfl ?_ -- t21
          intro b21
          refine WL.sto (Sto.agg sz46 rfl rfl (by repeat (first | exact Take1.head | apply Take1.tail)) (Rc.ones _) hf22 (by rfl) (Rc.all (r := Rc.zero) rfl _ hf22)) (fun _ h => nomatch h) ?_ -- st 2
          refine WL.y (Yl.assign rfl) rfl ?_ -- t22
          refine WL.nil ?_
          refine WC.seq ?_
          refine WC.region ?_
          refine WL.y (Yl.build rfl (cs := Rc.zero.cells) (fun _ => by kernel_rfl)) rfl ?_ -- t98
          refine WL.to (To.alloc (cs := Rc.zero.cells) zr46 rfl) rfl ?_ -- t23
          intro b23
          refine WL.sto (Sto.agg sz46 rfl rfl (by repeat (first | exact Take1.head | apply Take1.tail)) (Rc.ones _) rfl (by rfl) (Rc.all (r := Rc.zero) rfl Rc.zero.cells rfl)) (fun _ h => nomatch h) ?_ -- st 3
          refine WL.y (Yl.assign rfl) rfl ?_ -- t24
          refine WL.nil ?_
          refine WC.seq ?_
          refine WC.seq ?_
          refine WC.region ?_
          refine WL.y (Yl.move rfl) rfl ?_ -- t99
          refine WL.y (Yl.len un39 rfl) rfl ?_ -- t100
          refine WL.y (Yl.move rfl) rfl ?_ -- t101
          refine WL.nil ?_
          refine WC.block ?_
          refine WC.loop (α := Nat) (fun i => [(0, .slice al ls.length cl), (1, .int .u64 f), (2, .int .u64 t), (3, .int .u8 o), (4, .int .i64 left), (11, .pointer (some ⟨bl, 0, none⟩)), (12, .slice a63 q.length c63), (14, .pointer (some ⟨b14, 0, none⟩)), (21, .pointer (some ⟨b21, 0, none⟩)), (22, .bool (findF q x.id).isSome), (23, .pointer (some ⟨b23, 0, none⟩)), (24, .bool (findF (q.take i) x.id).isSome), (37, .slice al ls.length cl), (38, .int .i64 (ls.length : Int)), (39, .int .i64 (j : Int)), (99, .slice a63 q.length c63), (100, .int .i64 (q.length : Int)), (101, .int .i64 (i : Int))]) (fun i => [blkR b23 46 ((findF (q.take i) x.id).getD Rc.zero).cells, blkR b21 46 ((findF q x.id).getD Rc.zero).cells, blkR b14 46 x.cells, ownR (.slice a63 q.length c63) 46 22 q.length (vcs rcV q), blkR bl 87 [.pointer (some ⟨bb, 0, none⟩)], blkR bb 90 [.slice a71 q.length c71, .int .i64 4096], ownR (.slice a71 q.length c71) 46 22 q.length (vcs rcV q), rdR (.slice al ls.length cl) 22 ls.length (vcs rcV ls)]) (fun i => i ≤ q.length) (fun i => q.length - i) 0 (Nat.zero_le _) ⟨(by repeat (first | exact Sub.nil | refine Sub.cons rfl ?_)), _, (by repeat (first | exact TakeL.nil | (apply TakeL.cons; · repeat (first | exact Take1.head | apply Take1.tail))))⟩ ?_
          intro i hi
          refine WC.seq ?_
          refine WC.region ?_
          refine WL.y (Yl.lss rfl rfl) rfl ?_ -- t102
          refine WL.nil ?_
          refine WC.seq ?_
          refine WC.condD rfl (fun g102 => ?_) (fun g102 => ?_)
          · refine WC.skip ?_
            refine WC.seq ?_
            refine WC.block ?_
            refine WC.seq ?_
            refine WC.region ?_
            obtain ⟨y, hy0⟩ : ∃ y, q[i]? = some y := ⟨_, List.getElem?_eq_getElem (by omega)⟩
            have hyo := hqG.get hy0
            have hy22 := Rc.cells_len hyo.len
            have hfs := findF_snoc hy0 x.id
            have hgo := findF_ok (fun z hz => hqG z (List.mem_of_mem_take hz) : ROk (q.take i)) x.id
            refine WL.y (Yl.index un39 sz46 rfl rfl (Reads.of (RdOf.own (v := .slice a63 q.length c63)) (by repeat (first | exact Take1.head | apply Take1.tail))) rfl (by omega)) rfl ?_ -- t103
            refine WL.y (Yl.loadV (j := i) (u := y) vtR hqG rfl (Reads.of (RdOf.own (v := .slice a63 q.length c63)) (by repeat (first | exact Take1.head | apply Take1.tail))) rfl hy0) rfl ?_
            refine WL.to (To.alloc (cs := Rc.zero.cells) zr46 rfl) rfl ?_ -- t26
            intro b26
            refine WL.sto (Sto.agg sz46 rfl rfl (by repeat (first | exact Take1.head | apply Take1.tail)) (Rc.ones _) hy22 (by rfl) (Rc.all (r := Rc.zero) rfl y.cells hy22)) (fun _ h => nomatch h) ?_ -- st 4
            refine WL.nil ?_
            refine WC.seq ?_
            refine WC.region ?_
            refine WL.y (Yl.field fo46_0 rfl) rfl ?_ -- t105
            refine WL.y (Yl.loadN ag44 rfl (by repeat (first | exact Take1.head | apply Take1.tail)) (leB (by rw [hy22]; omega)) (Rc.cid hyo.len)) rfl ?_ -- t106
            refine WL.y (Yl.field fo46_0 rfl) rfl ?_ -- t107
            refine WL.y (Yl.loadN ag44 rfl (by repeat (first | exact Take1.head | apply Take1.tail)) (leB (by rw [h22]; omega)) (Rc.cid hxo.len)) rfl ?_ -- t108
            refine WL.y (Yl.eqA flId rfl rfl (fitsId hyo.len hyo.id) (fitsId hxo.len hxo.id)) rfl ?_
            rw [eqV_ints]
            refine WL.nil ?_
            refine WC.cond rfl (fun g109 => ?_) (fun g109 => ?_)
            · refine WC.region ?_
              refine WL.y (Yl.loadN ag46 rfl (by repeat (first | exact Take1.head | apply Take1.tail)) (leB (by rw [hy22]; omega)) (Rc.call hyo.len)) rfl ?_ -- t110
              refine WL.sto (Sto.agg sz46 rfl rfl (by repeat (first | exact Take1.head | apply Take1.tail)) (Rc.ones _) hy22 (leB (by rw [Rc.cells_len hgo.len]; omega)) (Rc.all hgo.len y.cells hy22)) (fun _ h => nomatch h) ?_ -- st 5
              refine WL.y (Yl.assign rfl) rfl ?_ -- t24
              refine WL.nil ?_
              refine WC.region ?_
              refine WL.y (Yl.add rfl rfl (IntWalk.i64_in _ (by omega))) rfl ?_ -- t111
              refine WL.y (Yl.move rfl) rfl ?_ -- t101
              refine WL.nil ?_
              first | (have hq9 := hfs; rw [g109, if_pos rfl] at hq9; refine ⟨rfl, i + 1, by omega, by omega, ?_⟩; rw [hq9]; exact ⟨(by repeat (first | exact Sub.nil | refine Sub.cons rfl ?_)), _, (by repeat (first | exact TakeL.nil | (apply TakeL.cons; · repeat (first | exact Take1.head | apply Take1.tail))))⟩) | (have hq9 := hfs; rw [g109, if_neg (by simp)] at hq9; refine ⟨rfl, i + 1, by omega, by omega, ?_⟩; rw [hq9]; exact ⟨(by repeat (first | exact Sub.nil | refine Sub.cons rfl ?_)), _, (by repeat (first | exact TakeL.nil | (apply TakeL.cons; · repeat (first | exact Take1.head | apply Take1.tail))))⟩)
            · refine WC.skip ?_
              refine WC.region ?_
              refine WL.y (Yl.add rfl rfl (IntWalk.i64_in _ (by omega))) rfl ?_ -- t111
              refine WL.y (Yl.move rfl) rfl ?_ -- t101
              refine WL.nil ?_
              first | (have hq9 := hfs; rw [g109, if_pos rfl] at hq9; refine ⟨rfl, i + 1, by omega, by omega, ?_⟩; rw [hq9]; exact ⟨(by repeat (first | exact Sub.nil | refine Sub.cons rfl ?_)), _, (by repeat (first | exact TakeL.nil | (apply TakeL.cons; · repeat (first | exact Take1.head | apply Take1.tail))))⟩) | (have hq9 := hfs; rw [g109, if_neg (by simp)] at hq9; refine ⟨rfl, i + 1, by omega, by omega, ?_⟩; rw [hq9]; exact ⟨(by repeat (first | exact Sub.nil | refine Sub.cons rfl ?_)), _, (by repeat (first | exact TakeL.nil | (apply TakeL.cons; · repeat (first | exact Take1.head | apply Take1.tail))))⟩)
          · refine WC.exit ?_
            refine WC.seq ?_
            refine WC.region ?_
            have hiq : i = q.length := by omega
            subst hiq
            rw [List.take_length]
            refine WL.y (Yl.loadN ag46 rfl (by repeat (first | exact Take1.head | apply Take1.tail)) (leB (by rw [hf22]; omega)) (Rc.call hfo.len)) rfl ?_ -- t112
            refine WL.y (Yl.loadN ag46 rfl (by repeat (first | exact Take1.head | apply Take1.tail)) (leB (by rw [hf22]; omega)) (Rc.call hfo.len)) rfl ?_ -- t113
            refine WL.y (Yl.neA flRec rfl rfl hfo.fits hfo.fits) rfl ?_
            refine WL.know (t := 114) (b' := false) rfl (by simp [eqV_self]) ?_
            refine WL.y (Yl.move rfl) rfl ?_ -- t115
            refine WL.on rfl rfl ?_
            refine WL.y (Yl.move rfl) rfl ?_ -- t116
            refine WL.on rfl rfl ?_
            refine WL.y (Yl.move rfl) rfl ?_ -- t117
            refine WL.on rfl rfl ?_
            refine WL.y (Yl.bNe un4 rfl rfl) rfl ?_ -- t118
            refine WL.know (t := 118) (b' := false) rfl (by simp) ?_
            refine WL.y (Yl.pickF rfl rfl) rfl ?_ -- t119
            refine WL.nil ?_
            refine WC.condF rfl (by first | rfl | (simp; done) | (simp; omega)) ?_
            refine WC.skip ?_
            refine WC.region ?_
            refine WL.y (Yl.add rfl rfl (IntWalk.i64_in _ (by omega))) rfl ?_ -- t120
            refine WL.y (Yl.move rfl) rfl ?_ -- t39
            refine WL.nil ?_
            exact ⟨rfl, (j + 1, q, (bl, bb), (a71, c71), (a63, c63)), ⟨by dsimp only; omega, by dsimp only; omega, hqG, hqM⟩, by dsimp only; omega, (by repeat (first | exact Sub.nil | refine Sub.cons rfl ?_)), _, (by repeat (first | exact TakeL.nil | (apply TakeL.cons; · repeat (first | exact Take1.head | apply Take1.tail))))⟩
        · refine WL.off rfl rfl rfl rfl ?_ -- t87
          refine WL.off rfl rfl rfl rfl ?_ -- t88
          refine WL.on rfl rfl ?_
          refine WL.y (Yl.pickF rfl rfl) rfl ?_ -- t89
          refine WL.y (Yl.pickF rfl rfl) rfl ?_ -- t90
          refine WL.nil ?_
          refine WC.condF rfl (by first | rfl | (simp; done) | (simp; omega)) ?_
          refine WC.skip ?_
          refine WC.seq ?_
          refine WC.region ?_
          obtain ⟨q, hqq⟩ : ∃ q, appF r x = q := ⟨_, rfl⟩
          rw [hqq] at hql hqG hqM ⊢
          have hfo := findF_ok hqG x.id
          have hf22 := Rc.cells_len hfo.len
          refine WL.y (Yl.move rfl) rfl ?_ -- t92
          refine WL.y (Yl.field fo46_0 rfl) rfl ?_ -- t93
          refine WL.y (Yl.loadN ag44 rfl (by repeat (first | exact Take1.head | apply Take1.tail)) (leB (by rw [h22]; omega)) (Rc.cid hxo.len)) rfl ?_ -- t94
          refine WL.callRo (xs := [.tmp 92, .tmp 94]) (cap := []) (A := [blkR bl 87 [.pointer (some ⟨bb, 0, none⟩)], blkR bb 90 [.slice a71 q.length c71, .int .i64 4096], ownR (.slice a71 q.length c71) 46 22 q.length (vcs rcV q)]) rfl rfl en22 (by repeat (first | exact TakeL.nil | (apply TakeL.cons; · repeat (first | exact Take1.head | apply Take1.tail)))) (fun w hw => findL_any bl bb a71 c71 q hqG (by omega) x.id hxo.len hxo.id w hw.left.here) rfl ?_
          rintro ⟨⟩ -
          refine WL.y (Yl.move rfl) rfl ?_ -- t91
          refine WL.y (Yl.extract rfl rfl) rfl ?_ -- t96
          refine WL.y (Yl.extract rfl rfl) rfl ?_ -- t97
          refine WL.to (To.alloc (cs := Rc.zero.cells) zr46 rfl) rfl ?_ -- t21
          intro b21
          refine WL.sto (Sto.agg sz46 rfl rfl (by repeat (first | exact Take1.head | apply Take1.tail)) (Rc.ones _) hf22 (by rfl) (Rc.all (r := Rc.zero) rfl _ hf22)) (fun _ h => nomatch h) ?_ -- st 2
          refine WL.y (Yl.assign rfl) rfl ?_ -- t22
          refine WL.nil ?_
          refine WC.seq ?_
          refine WC.region ?_
          refine WL.y (Yl.build rfl (cs := Rc.zero.cells) (fun _ => by kernel_rfl)) rfl ?_ -- t98
          refine WL.to (To.alloc (cs := Rc.zero.cells) zr46 rfl) rfl ?_ -- t23
          intro b23
          refine WL.sto (Sto.agg sz46 rfl rfl (by repeat (first | exact Take1.head | apply Take1.tail)) (Rc.ones _) rfl (by rfl) (Rc.all (r := Rc.zero) rfl Rc.zero.cells rfl)) (fun _ h => nomatch h) ?_ -- st 3
          refine WL.y (Yl.assign rfl) rfl ?_ -- t24
          refine WL.nil ?_
          refine WC.seq ?_
          refine WC.seq ?_
          refine WC.region ?_
          refine WL.y (Yl.move rfl) rfl ?_ -- t99
          refine WL.y (Yl.len un39 rfl) rfl ?_ -- t100
          refine WL.y (Yl.move rfl) rfl ?_ -- t101
          refine WL.nil ?_
          refine WC.block ?_
          refine WC.loop (α := Nat) (fun i => [(0, .slice al ls.length cl), (1, .int .u64 f), (2, .int .u64 t), (3, .int .u8 o), (4, .int .i64 left), (11, .pointer (some ⟨bl, 0, none⟩)), (12, .slice a63 q.length c63), (14, .pointer (some ⟨b14, 0, none⟩)), (21, .pointer (some ⟨b21, 0, none⟩)), (22, .bool (findF q x.id).isSome), (23, .pointer (some ⟨b23, 0, none⟩)), (24, .bool (findF (q.take i) x.id).isSome), (37, .slice al ls.length cl), (38, .int .i64 (ls.length : Int)), (39, .int .i64 (j : Int)), (99, .slice a63 q.length c63), (100, .int .i64 (q.length : Int)), (101, .int .i64 (i : Int))]) (fun i => [blkR b23 46 ((findF (q.take i) x.id).getD Rc.zero).cells, blkR b21 46 ((findF q x.id).getD Rc.zero).cells, blkR b14 46 x.cells, ownR (.slice a63 q.length c63) 46 22 q.length (vcs rcV q), blkR bl 87 [.pointer (some ⟨bb, 0, none⟩)], blkR bb 90 [.slice a71 q.length c71, .int .i64 4096], ownR (.slice a71 q.length c71) 46 22 q.length (vcs rcV q), rdR (.slice al ls.length cl) 22 ls.length (vcs rcV ls)]) (fun i => i ≤ q.length) (fun i => q.length - i) 0 (Nat.zero_le _) ⟨(by repeat (first | exact Sub.nil | refine Sub.cons rfl ?_)), _, (by repeat (first | exact TakeL.nil | (apply TakeL.cons; · repeat (first | exact Take1.head | apply Take1.tail))))⟩ ?_
          intro i hi
          refine WC.seq ?_
          refine WC.region ?_
          refine WL.y (Yl.lss rfl rfl) rfl ?_ -- t102
          refine WL.nil ?_
          refine WC.seq ?_
          refine WC.condD rfl (fun g102 => ?_) (fun g102 => ?_)
          · refine WC.skip ?_
            refine WC.seq ?_
            refine WC.block ?_
            refine WC.seq ?_
            refine WC.region ?_
            obtain ⟨y, hy0⟩ : ∃ y, q[i]? = some y := ⟨_, List.getElem?_eq_getElem (by omega)⟩
            have hyo := hqG.get hy0
            have hy22 := Rc.cells_len hyo.len
            have hfs := findF_snoc hy0 x.id
            have hgo := findF_ok (fun z hz => hqG z (List.mem_of_mem_take hz) : ROk (q.take i)) x.id
            refine WL.y (Yl.index un39 sz46 rfl rfl (Reads.of (RdOf.own (v := .slice a63 q.length c63)) (by repeat (first | exact Take1.head | apply Take1.tail))) rfl (by omega)) rfl ?_ -- t103
            refine WL.y (Yl.loadV (j := i) (u := y) vtR hqG rfl (Reads.of (RdOf.own (v := .slice a63 q.length c63)) (by repeat (first | exact Take1.head | apply Take1.tail))) rfl hy0) rfl ?_
            refine WL.to (To.alloc (cs := Rc.zero.cells) zr46 rfl) rfl ?_ -- t26
            intro b26
            refine WL.sto (Sto.agg sz46 rfl rfl (by repeat (first | exact Take1.head | apply Take1.tail)) (Rc.ones _) hy22 (by rfl) (Rc.all (r := Rc.zero) rfl y.cells hy22)) (fun _ h => nomatch h) ?_ -- st 4
            refine WL.nil ?_
            refine WC.seq ?_
            refine WC.region ?_
            refine WL.y (Yl.field fo46_0 rfl) rfl ?_ -- t105
            refine WL.y (Yl.loadN ag44 rfl (by repeat (first | exact Take1.head | apply Take1.tail)) (leB (by rw [hy22]; omega)) (Rc.cid hyo.len)) rfl ?_ -- t106
            refine WL.y (Yl.field fo46_0 rfl) rfl ?_ -- t107
            refine WL.y (Yl.loadN ag44 rfl (by repeat (first | exact Take1.head | apply Take1.tail)) (leB (by rw [h22]; omega)) (Rc.cid hxo.len)) rfl ?_ -- t108
            refine WL.y (Yl.eqA flId rfl rfl (fitsId hyo.len hyo.id) (fitsId hxo.len hxo.id)) rfl ?_
            rw [eqV_ints]
            refine WL.nil ?_
            refine WC.cond rfl (fun g109 => ?_) (fun g109 => ?_)
            · refine WC.region ?_
              refine WL.y (Yl.loadN ag46 rfl (by repeat (first | exact Take1.head | apply Take1.tail)) (leB (by rw [hy22]; omega)) (Rc.call hyo.len)) rfl ?_ -- t110
              refine WL.sto (Sto.agg sz46 rfl rfl (by repeat (first | exact Take1.head | apply Take1.tail)) (Rc.ones _) hy22 (leB (by rw [Rc.cells_len hgo.len]; omega)) (Rc.all hgo.len y.cells hy22)) (fun _ h => nomatch h) ?_ -- st 5
              refine WL.y (Yl.assign rfl) rfl ?_ -- t24
              refine WL.nil ?_
              refine WC.region ?_
              refine WL.y (Yl.add rfl rfl (IntWalk.i64_in _ (by omega))) rfl ?_ -- t111
              refine WL.y (Yl.move rfl) rfl ?_ -- t101
              refine WL.nil ?_
              first | (have hq9 := hfs; rw [g109, if_pos rfl] at hq9; refine ⟨rfl, i + 1, by omega, by omega, ?_⟩; rw [hq9]; exact ⟨(by repeat (first | exact Sub.nil | refine Sub.cons rfl ?_)), _, (by repeat (first | exact TakeL.nil | (apply TakeL.cons; · repeat (first | exact Take1.head | apply Take1.tail))))⟩) | (have hq9 := hfs; rw [g109, if_neg (by simp)] at hq9; refine ⟨rfl, i + 1, by omega, by omega, ?_⟩; rw [hq9]; exact ⟨(by repeat (first | exact Sub.nil | refine Sub.cons rfl ?_)), _, (by repeat (first | exact TakeL.nil | (apply TakeL.cons; · repeat (first | exact Take1.head | apply Take1.tail))))⟩)
            · refine WC.skip ?_
              refine WC.region ?_
              refine WL.y (Yl.add rfl rfl (IntWalk.i64_in _ (by omega))) rfl ?_ -- t111
              refine WL.y (Yl.move rfl) rfl ?_ -- t101
              refine WL.nil ?_
              first | (have hq9 := hfs; rw [g109, if_pos rfl] at hq9; refine ⟨rfl, i + 1, by omega, by omega, ?_⟩; rw [hq9]; exact ⟨(by repeat (first | exact Sub.nil | refine Sub.cons rfl ?_)), _, (by repeat (first | exact TakeL.nil | (apply TakeL.cons; · repeat (first | exact Take1.head | apply Take1.tail))))⟩) | (have hq9 := hfs; rw [g109, if_neg (by simp)] at hq9; refine ⟨rfl, i + 1, by omega, by omega, ?_⟩; rw [hq9]; exact ⟨(by repeat (first | exact Sub.nil | refine Sub.cons rfl ?_)), _, (by repeat (first | exact TakeL.nil | (apply TakeL.cons; · repeat (first | exact Take1.head | apply Take1.tail))))⟩)
          · refine WC.exit ?_
            refine WC.seq ?_
            refine WC.region ?_
            have hiq : i = q.length := by omega
            subst hiq
            rw [List.take_length]
            refine WL.y (Yl.loadN ag46 rfl (by repeat (first | exact Take1.head | apply Take1.tail)) (leB (by rw [hf22]; omega)) (Rc.call hfo.len)) rfl ?_ -- t112
            refine WL.y (Yl.loadN ag46 rfl (by repeat (first | exact Take1.head | apply Take1.tail)) (leB (by rw [hf22]; omega)) (Rc.call hfo.len)) rfl ?_ -- t113
            refine WL.y (Yl.neA flRec rfl rfl hfo.fits hfo.fits) rfl ?_
            refine WL.know (t := 114) (b' := false) rfl (by simp [eqV_self]) ?_
            refine WL.y (Yl.move rfl) rfl ?_ -- t115
            refine WL.on rfl rfl ?_
            refine WL.y (Yl.move rfl) rfl ?_ -- t116
            refine WL.on rfl rfl ?_
            refine WL.y (Yl.move rfl) rfl ?_ -- t117
            refine WL.on rfl rfl ?_
            refine WL.y (Yl.bNe un4 rfl rfl) rfl ?_ -- t118
            refine WL.know (t := 118) (b' := false) rfl (by simp) ?_
            refine WL.y (Yl.pickF rfl rfl) rfl ?_ -- t119
            refine WL.nil ?_
            refine WC.condF rfl (by first | rfl | (simp; done) | (simp; omega)) ?_
            refine WC.skip ?_
            refine WC.region ?_
            refine WL.y (Yl.add rfl rfl (IntWalk.i64_in _ (by omega))) rfl ?_ -- t120
            refine WL.y (Yl.move rfl) rfl ?_ -- t39
            refine WL.nil ?_
            exact ⟨rfl, (j + 1, q, (bl, bb), (a71, c71), (a63, c63)), ⟨by dsimp only; omega, by dsimp only; omega, hqG, hqM⟩, by dsimp only; omega, (by repeat (first | exact Sub.nil | refine Sub.cons rfl ?_)), _, (by repeat (first | exact TakeL.nil | (apply TakeL.cons; · repeat (first | exact Take1.head | apply Take1.tail))))⟩
    · refine WC.exit ?_
      refine WC.seq ?_
      refine WC.region ?_
      refine WL.y (Yl.move rfl) rfl ?_ -- t121
      refine WL.callC (xs := [.tmp 121, _, _, _]) (cap := []) rfl rfl en23 (by repeat (first | exact TakeL.nil | (apply TakeL.cons; · repeat (first | exact Take1.head | apply Take1.tail)))) (fun w hw => rquery_any _ r 0 18446744073709551615 0 hRG (by omega) w (hw.src (A := []) (RdOf.own (v := .slice bo r.length cb)) (by repeat (first | exact Take1.head | apply Take1.tail))) hw.left.here) rfl ?_ -- t122 hailer/hailerref25.Query
      rintro ⟨a122, c122⟩ -
      dsimp only
      refine WL.y (Yl.move rfl) rfl ?_ -- t123
      refine WL.y (Yl.move rfl) rfl ?_ -- t124
      refine WL.y (Yl.move rfl) rfl ?_ -- t125
      refine WL.y (Yl.move rfl) rfl ?_ -- t126
      refine WL.callC (xs := [.tmp 123, .tmp 124, .tmp 125, .tmp 126]) (cap := []) rfl rfl en23 (by repeat (first | exact TakeL.nil | (apply TakeL.cons; · repeat (first | exact Take1.head | apply Take1.tail)))) (fun w hw => rquery_any _ r f t o hRG (by omega) w (hw.src (A := []) (RdOf.own (v := .slice bo r.length cb)) (by repeat (first | exact Take1.head | apply Take1.tail))) hw.left.here) rfl ?_ -- t127 hailer/hailerref25.Query
      rintro ⟨a127, c127⟩ -
      dsimp only
      refine WL.y (Yl.assign rfl) rfl ?_ -- t27
      refine WL.y (Yl.assign rfl) rfl ?_ -- t28
      refine WL.nil ?_
      refine WC.seq ?_
      refine WC.seq ?_
      refine WC.region ?_
      refine WL.y (Yl.move rfl) rfl ?_ -- t128
      refine WL.y (Yl.len un39 rfl) rfl ?_ -- t129
      refine WL.y (Yl.move rfl) rfl ?_ -- t130
      refine WL.nil ?_
      refine WC.block ?_
      refine WC.loop (α := Nat) (fun i => [(1, .int .u64 f), (2, .int .u64 t), (3, .int .u8 o), (4, .int .i64 left), (11, .pointer (some ⟨bl, 0, none⟩)), (12, .slice bo r.length cb), (27, .slice a122 (queryF 0 18446744073709551615 0 r).length c122), (28, .slice a127 (queryF f t o r).length c127), (128, .slice bo r.length cb), (129, .int .i64 (r.length : Int)), (130, .int .i64 (i : Int))]) (fun i => [ownR (.slice a127 (queryF f t o r).length c127) 46 22 (queryF f t o r).length (vcs rcV (queryF f t o r)), ownR (.slice a122 (queryF 0 18446744073709551615 0 r).length c122) 46 22 (queryF 0 18446744073709551615 0 r).length (vcs rcV (queryF 0 18446744073709551615 0 r)), ownR (.slice bo r.length cb) 46 22 r.length (vcs rcV r), blkR bl 87 [.pointer (some ⟨bb, 0, none⟩)], blkR bb 90 [.slice ao r.length ca, .int .i64 4096], ownR (.slice ao r.length ca) 46 22 r.length (vcs rcV r)]) (fun i => i ≤ r.length ∧ ∀ x ∈ r.take i, x.en ≠ 18446744073709551615) (fun i => r.length - i) 0 ⟨Nat.zero_le _, by simp⟩ ⟨(by repeat (first | exact Sub.nil | refine Sub.cons rfl ?_)), _, (by repeat (first | exact TakeL.nil | (apply TakeL.cons; · repeat (first | exact Take1.head | apply Take1.tail))))⟩ ?_
      rintro i ⟨hi, hne⟩
      refine WC.seq ?_
      refine WC.region ?_
      refine WL.y (Yl.lss rfl rfl) rfl ?_ -- t131
      refine WL.nil ?_
      refine WC.seq ?_
      refine WC.condD rfl (fun g131 => ?_) (fun g131 => ?_)
      · refine WC.skip ?_
        refine WC.seq ?_
        refine WC.block ?_
        refine WC.seq ?_
        refine WC.region ?_
        obtain ⟨y, hy0⟩ : ∃ y, r[i]? = some y := ⟨_, List.getElem?_eq_getElem (by omega)⟩
        have hyo := hRG.get hy0
        have hy22 := Rc.cells_len hyo.len
        refine WL.y (Yl.index un39 sz46 rfl rfl (Reads.of (RdOf.own (v := .slice bo r.length cb)) (by repeat (first | exact Take1.head | apply Take1.tail))) rfl (by omega)) rfl ?_ -- t132
        refine WL.y (Yl.loadV (j := i) (u := y) vtR hRG rfl (Reads.of (RdOf.own (v := .slice bo r.length cb)) (by repeat (first | exact Take1.head | apply Take1.tail))) rfl hy0) rfl ?_
        refine WL.to (To.alloc (cs := Rc.zero.cells) zr46 rfl) rfl ?_ -- t30
        intro b30
        refine WL.sto (Sto.agg sz46 rfl rfl (by repeat (first | exact Take1.head | apply Take1.tail)) (Rc.ones _) hy22 (by rfl) (Rc.all (r := Rc.zero) rfl y.cells hy22)) (fun _ h => nomatch h) ?_ -- st 6
        refine WL.nil ?_
        refine WC.seq ?_
        refine WC.region ?_
        refine WL.y (Yl.field fo46_6 rfl) rfl ?_ -- t134
        refine WL.y (Yl.load on40 rfl (by repeat (first | exact Take1.head | apply Take1.tail)) (Rc.c21 hyo.len)) rfl ?_ -- t135
        refine WL.y (Yl.eql rfl rfl) rfl ?_ -- t136
        refine WL.nil ?_
        refine WC.condD rfl (fun g136 => ?_) (fun g136 => ?_)
        · refine WC.seq ?_
          refine WC.region ?_
          refine WL.y (Yl.assign rfl) rfl ?_ -- t10
          refine WL.nil ?_
          refine WC.ret ?_
          repeat (first | (with_reducible refine peelT ?_) | (with_reducible refine peelB ?_) | (with_reducible refine peelTX ?_) | (with_reducible refine peelBX ?_) | (with_reducible refine peelBN ?_) | (with_reducible refine peelBO rfl ?_))
          exact ret1 (.inr rfl) Try.results4 rfl fun w' h => ⟨(), trivial, rfl, h.sub (by repeat (first | exact TakeL.nil | (apply TakeL.cons; · repeat (first | exact Take1.head | apply Take1.tail))))⟩
        · refine WC.skip ?_
          refine WC.region ?_
          refine WL.y (Yl.add rfl rfl (IntWalk.i64_in _ (by omega))) rfl ?_ -- t137
          refine WL.y (Yl.move rfl) rfl ?_ -- t130
          refine WL.nil ?_
          exact ⟨rfl, i + 1, ⟨by omega, fun z hz => by
            rw [List.take_add_one, hy0] at hz
            rcases List.mem_append.1 hz with h1 | h1
            · exact hne z h1
            · simp at h1; subst h1; omega⟩, by omega, (by repeat (first | exact Sub.nil | refine Sub.cons rfl ?_)), _, (by repeat (first | exact TakeL.nil | (apply TakeL.cons; · repeat (first | exact Take1.head | apply Take1.tail))))⟩
      · refine WC.exit ?_
        refine WC.seq ?_
        refine WC.seq ?_
        have hir : i = r.length := by omega
        subst hir
        rw [List.take_length] at hne
        rw [query_all hRG hne]
        have hqo := queryOk hRG f t o
        have hqn := queryLen f t o r
        have hrv : ROk r.reverse := fun x hx => hRG x (List.mem_reverse.1 hx)
        refine WC.view (fun w h => OK.roOne (r := blkR bl 87 [.pointer (some ⟨bb, 0, none⟩)]) h (by repeat (first | exact Take1.head | apply Take1.tail))) ?_
        refine WC.view (fun w h => OK.roOne (r := blkR bb 90 [.slice ao r.length ca, .int .i64 4096]) h (by repeat (first | exact Take1.head | apply Take1.tail))) ?_
        refine WC.view (fun w h => h.readOnly (v := .slice ao r.length ca) (by repeat (first | exact Take1.head | apply Take1.tail))) ?_
        refine WC.view (fun w h => OK.dup (r := roR (blkR bl 87 [.pointer (some ⟨bb, 0, none⟩)])) h (by repeat (first | exact Take1.head | apply Take1.tail)) (fun _ h => h)) ?_
        refine WC.view (fun w h => OK.dup (r := roR (blkR bb 90 [.slice ao r.length ca, .int .i64 4096])) h (by repeat (first | exact Take1.head | apply Take1.tail)) (fun _ h => h)) ?_
        refine WC.view (fun w h => OK.dup (r := rdR (.slice ao r.length ca) 22 r.length (vcs rcV r)) h (by repeat (first | exact Take1.head | apply Take1.tail)) (fun _ h => h)) ?_
        refine WC.view (fun w h => OK.dup (r := roR (blkR bl 87 [.pointer (some ⟨bb, 0, none⟩)])) h (by repeat (first | exact Take1.head | apply Take1.tail)) (fun _ h => h)) ?_
        refine WC.view (fun w h => OK.dup (r := roR (blkR bb 90 [.slice ao r.length ca, .int .i64 4096])) h (by repeat (first | exact Take1.head | apply Take1.tail)) (fun _ h => h)) ?_
        refine WC.view (fun w h => OK.dup (r := rdR (.slice ao r.length ca) 22 r.length (vcs rcV r)) h (by repeat (first | exact Take1.head | apply Take1.tail)) (fun _ h => h)) ?_
        refine WC.view (fun w h => OK.dup (r := roR (blkR bl 87 [.pointer (some ⟨bb, 0, none⟩)])) h (by repeat (first | exact Take1.head | apply Take1.tail)) (fun _ h => h)) ?_
        refine WC.view (fun w h => OK.dup (r := roR (blkR bb 90 [.slice ao r.length ca, .int .i64 4096])) h (by repeat (first | exact Take1.head | apply Take1.tail)) (fun _ h => h)) ?_
        refine WC.view (fun w h => OK.dup (r := rdR (.slice ao r.length ca) 22 r.length (vcs rcV r)) h (by repeat (first | exact Take1.head | apply Take1.tail)) (fun _ h => h)) ?_
        refine WC.drawAny (Hs := [ownR (.slice bo r.length cb) 46 22 r.length (vcs rcV r)]) mixed (by kernel_rfl) ⟨_, (by repeat (first | exact TakeL.nil | (apply TakeL.cons; · repeat (first | exact Take1.head | apply Take1.tail))))⟩ ?_
        refine WD.take 0 rfl (by kernel_rfl) (by kernel_rfl) (by kernel_rfl) rfl rfl (Yl.move rfl) rfl ?_ -- t138
        refine WD.take 2 rfl (by kernel_rfl) (by kernel_rfl) (by kernel_rfl) rfl rfl (Yl.move rfl) rfl ?_ -- t140
        refine WD.take 3 rfl (by kernel_rfl) (by kernel_rfl) (by kernel_rfl) rfl rfl (Yl.len un39 rfl) rfl ?_ -- t141
        refine WD.one 1 (by kernel_rfl) ?_
        refine WO.callC (xs := [.tmp 138]) (cap := []) rfl .no rfl rfl en24 (by repeat (first | exact TakeL.nil | (apply TakeL.cons; · repeat (first | exact Take1.head | apply Take1.tail)))) (fun w hw => logLenS_any bl bb ao r.length ca w (hw.srcRo (A := []) (by repeat (first | exact Take1.head | apply Take1.tail))) (hw.srcRo (A := []) (by repeat (first | exact Take1.head | apply Take1.tail))) hw.left.here) rfl (fun _ => ⟨_, (by repeat (first | exact TakeL.nil | (apply TakeL.cons; · repeat (first | exact Take1.head | apply Take1.tail))))⟩) ?_ -- t139 (*hailer/log.Log).Len
        rintro ⟨⟩ -
        refine WD.take 4 rfl (by kernel_rfl) (by kernel_rfl) (by kernel_rfl) rfl rfl (Yl.neq rfl rfl) rfl ?_ -- t142
        refine WD.know (t := 142) (b' := false) rfl (by first | rfl | (simp; done) | (simp; omega)) ?_
        refine WD.take 5 rfl (by kernel_rfl) (by kernel_rfl) (by kernel_rfl) rfl rfl (Yl.move rfl) rfl ?_ -- t143
        refine WD.takeOn 6 rfl (by kernel_rfl) (by kernel_rfl) (by kernel_rfl) rfl rfl rfl rfl (Yl.move rfl) rfl ?_ -- t144
        refine WD.takeOn 9 rfl (by kernel_rfl) (by kernel_rfl) (by kernel_rfl) rfl rfl rfl rfl (Yl.move rfl) rfl ?_ -- t147
        refine WD.one 7 (by kernel_rfl) ?_
        refine WO.callC (xs := [.tmp 144]) (cap := []) rfl (.on rfl rfl) rfl rfl en25 (by repeat (first | exact TakeL.nil | (apply TakeL.cons; · repeat (first | exact Take1.head | apply Take1.tail)))) (fun w hw => bytesL_any bl bb ao ca r hRG hRM (by omega) w hw.left.here) rfl (fun _ => ⟨_, (by repeat (first | exact TakeL.nil | (apply TakeL.cons; · repeat (first | exact Take1.head | apply Take1.tail))))⟩) ?_ -- t145 (*hailer/log.Log).Bytes
        rintro ⟨a145, c145⟩ -
        dsimp only
        refine WD.two 8 10 (by kernel_rfl) ?_ ?_
        · refine WO.y rfl rfl (.on rfl rfl) (Yl.toStr un56 un5 un9 rfl ((Reads.of (RdOf.own (v := .slice a145 (allB r).length c145) (e := 5) (cs := ints .u8 (allB r))) (by repeat (first | exact Take1.head | apply Take1.tail))))) rfl ?_ -- t146
          refine WD.one 10 (by kernel_rfl) ?_
          refine WO.callC (xs := [.tmp 147]) (cap := []) rfl (.on rfl rfl) rfl rfl en26 (by repeat (first | exact TakeL.nil | (apply TakeL.cons; · repeat (first | exact Take1.head | apply Take1.tail)))) (fun w hw => rbytesL_any _ r hRG (by omega) w (hw.src (A := []) (RdOf.own (v := .slice bo r.length cb)) (by repeat (first | exact Take1.head | apply Take1.tail))) hw.left.here) rfl (fun _ => ⟨_, (by repeat (first | exact TakeL.nil | (apply TakeL.cons; · repeat (first | exact Take1.head | apply Take1.tail))))⟩) ?_ -- t148 hailer/hailerref25.Bytes
          rintro ⟨a148, c148⟩ -
          dsimp only
          refine WD.one 11 (by kernel_rfl) ?_
          refine WO.y rfl rfl (.on rfl rfl) (Yl.toStr un56 un5 un9 rfl ((Reads.of (RdOf.own (v := .slice a148 (allB r).length c148) (e := 5) (cs := ints .u8 (allB r))) (by repeat (first | exact Take1.head | apply Take1.tail))))) rfl ?_ -- t149
          refine WD.takeOn 12 rfl (by kernel_rfl) (by kernel_rfl) (by kernel_rfl) rfl rfl rfl rfl (Yl.sNe rfl rfl) rfl ?_ -- t150
          refine WD.know (t := 150) (b' := false) rfl (by simp) ?_
          refine WD.take 13 rfl (by kernel_rfl) (by kernel_rfl) (by kernel_rfl) rfl rfl (Yl.pickF rfl rfl) rfl ?_ -- t151
          refine WD.done (by kernel_rfl) ?_
          refine WC.condF rfl (by first | rfl | (simp; done) | (simp; omega)) ?_
          refine WC.skip ?_
          refine WC.seq ?_
          refine WC.region ?_
          refine WL.y (Yl.move rfl) rfl ?_ -- t152
          refine WL.y (Yl.len un39 rfl) rfl ?_ -- t153
          refine WL.y (Yl.eql rfl rfl) rfl ?_ -- t154
          refine WL.y (Yl.move rfl) rfl ?_ -- t155
          refine WL.both (t := 155) rfl (fun g155 => ?_) (fun g155 => ?_)
          · refine WL.off rfl rfl rfl rfl ?_ -- t156
            refine WL.off rfl rfl rfl rfl ?_ -- t157
            refine WL.off rfl rfl rfl rfl ?_ -- t158
            refine WL.off rfl rfl rfl rfl ?_ -- t159
            refine WL.off rfl rfl rfl rfl ?_ -- t160
            refine WL.y (Yl.pickT rfl rfl) rfl ?_ -- t161
            refine WL.know (t := 161) (b' := true) rfl (by first | rfl | (simp; done) | (simp; omega)) ?_
            refine WL.y (Yl.move rfl) rfl ?_ -- t162
            refine WL.on rfl rfl ?_
            refine WL.y (Yl.move rfl) rfl ?_ -- t163
            refine WL.on rfl rfl ?_
            refine WL.y (Yl.len un39 rfl) rfl ?_ -- t164
            refine WL.on rfl rfl ?_
            refine WL.y (Yl.eql rfl rfl) rfl ?_ -- t165
            refine WL.on rfl rfl ?_
            refine WL.y (Yl.move rfl) rfl ?_ -- t166
            refine WL.both (t := 166) rfl (fun g166 => ?_) (fun g166 => ?_)
            · refine WL.off rfl rfl rfl rfl ?_ -- t167
              refine WL.off rfl rfl rfl rfl ?_ -- t168
              refine WL.off rfl rfl rfl rfl ?_ -- t169
              refine WL.off rfl rfl rfl rfl ?_ -- t170
              refine WL.off rfl rfl rfl rfl ?_ -- t171
              refine WL.off rfl rfl rfl rfl ?_ -- t172
              refine WL.off rfl rfl rfl rfl ?_ -- t173
              refine WL.off rfl rfl rfl rfl ?_ -- t174
              refine WL.on rfl rfl ?_
              refine WL.y (Yl.pickT rfl rfl) rfl ?_ -- t175
              refine WL.y (Yl.pickT rfl rfl) rfl ?_ -- t176
              refine WL.y (Yl.assign rfl) rfl ?_ -- t10
              refine WL.nil ?_
              refine WC.ret ?_
              repeat (first | (with_reducible refine peelT ?_) | (with_reducible refine peelB ?_) | (with_reducible refine peelTX ?_) | (with_reducible refine peelBX ?_) | (with_reducible refine peelBN ?_) | (with_reducible refine peelBO rfl ?_))
              exact ret1 (.inr rfl) Try.results4 rfl fun w' h => ⟨(), trivial, rfl, h.sub (by repeat (first | exact TakeL.nil | (apply TakeL.cons; · repeat (first | exact Take1.head | apply Take1.tail))))⟩
            · refine WL.on rfl rfl ?_
              refine WL.y (Yl.move rfl) rfl ?_ -- t167
              refine WL.on rfl rfl ?_
              refine WL.y (Yl.move rfl) rfl ?_ -- t168
              refine WL.on rfl rfl ?_
              refine WL.y (Yl.move rfl) rfl ?_ -- t169
              refine WL.on rfl rfl ?_
              refine WL.y (Yl.move rfl) rfl ?_ -- t170
              refine WL.on rfl rfl ?_
              refine WL.callC (xs := [.tmp 167, .tmp 168, .tmp 169, .tmp 170]) (cap := []) rfl rfl en29 (by repeat (first | exact TakeL.nil | (apply TakeL.cons; · repeat (first | exact Take1.head | apply Take1.tail)))) (fun w hw => queryL_any bl bb ao ca r f t o hRG (by omega) w hw.left.here) rfl ?_ -- t171 (*hailer/log.Log).Query
              rintro ⟨⟨d1, d2, d3, d4⟩, own2⟩ -
              refine WL.on rfl rfl ?_
              refine WL.y (Yl.move rfl) rfl ?_ -- t172
              refine WL.on rfl rfl ?_
              refine WL.y (Yl.move rfl) rfl ?_ -- t173
              refine WL.on rfl rfl ?_
              refine WL.view (fun w h => h.readOnly (v := .slice a127 (queryF f t o r).length c127) (by repeat (first | exact Take1.head | apply Take1.tail))) ?_
              refine WL.callC (xs := [.tmp 171, .tmp 172, .tmp 173]) (cap := []) rfl rfl en27 (by repeat (first | exact TakeL.nil | (apply TakeL.cons; · repeat (first | exact Take1.head | apply Take1.tail)))) (fun w hw => areR_any 53 [.pointer (some ⟨d1, 0, none⟩), .pointer (some ⟨d2, 0, none⟩), .pointer (some ⟨d3, 0, none⟩), .pointer (some ⟨d4, 0, none⟩)] own2 en53 (queryF f t o r) hqo _ left hleft (by omega) w hw.left.here) rfl ?_ -- t174 hailer/hailerlaw25.are[hailer/api.Record]
              rintro ⟨⟩ -
              refine WL.on rfl rfl ?_
              refine WL.y (Yl.pickF rfl rfl) rfl ?_ -- t175
              refine WL.y (Yl.pickT rfl rfl) rfl ?_ -- t176
              refine WL.y (Yl.assign rfl) rfl ?_ -- t10
              refine WL.nil ?_
              refine WC.ret ?_
              repeat (first | (with_reducible refine peelT ?_) | (with_reducible refine peelB ?_) | (with_reducible refine peelTX ?_) | (with_reducible refine peelBX ?_) | (with_reducible refine peelBN ?_) | (with_reducible refine peelBO rfl ?_))
              exact ret1 (.inr rfl) Try.results4 rfl fun w' h => ⟨(), trivial, rfl, h.sub (by repeat (first | exact TakeL.nil | (apply TakeL.cons; · repeat (first | exact Take1.head | apply Take1.tail))))⟩
          · refine WL.on rfl rfl ?_
            refine WL.y (Yl.move rfl) rfl ?_ -- t156
            refine WL.on rfl rfl ?_
            refine WL.callC (xs := [.tmp 156]) (cap := []) rfl rfl en28 (by repeat (first | exact TakeL.nil | (apply TakeL.cons; · repeat (first | exact Take1.head | apply Take1.tail)))) (fun w hw => nwRd_any bl bb ao ca r hRG (by omega) w hw.left.here) rfl ?_ -- t157 (*hailer/log.Log).Newest
            rintro ⟨bn, own⟩ -
            refine WL.on rfl rfl ?_
            refine WL.y (Yl.move rfl) rfl ?_ -- t158
            refine WL.on rfl rfl ?_
            refine WL.y (Yl.move rfl) rfl ?_ -- t159
            refine WL.on rfl rfl ?_
            refine WL.view (fun w h => h.readOnly (v := .slice a122 r.reverse.length c122) (by repeat (first | exact Take1.head | apply Take1.tail))) ?_
            refine WL.callC (xs := [.tmp 157, .tmp 158, .tmp 159]) (cap := []) rfl rfl en27 (by repeat (first | exact TakeL.nil | (apply TakeL.cons; · repeat (first | exact Take1.head | apply Take1.tail)))) (fun w hw => areR_any 51 [.pointer (some ⟨bn, 0, none⟩)] own en51 r.reverse hrv _ left hleft (by rw [List.length_reverse]; omega) w hw.left.here) rfl ?_ -- t160 hailer/hailerlaw25.are[hailer/api.Record]
            rintro ⟨⟩ -
            refine WL.y (Yl.pickF rfl rfl) rfl ?_ -- t161
            refine WL.know (t := 161) (b' := true) rfl (by first | rfl | (simp; done) | (simp; omega)) ?_
            refine WL.y (Yl.move rfl) rfl ?_ -- t162
            refine WL.on rfl rfl ?_
            refine WL.y (Yl.move rfl) rfl ?_ -- t163
            refine WL.on rfl rfl ?_
            refine WL.y (Yl.len un39 rfl) rfl ?_ -- t164
            refine WL.on rfl rfl ?_
            refine WL.y (Yl.eql rfl rfl) rfl ?_ -- t165
            refine WL.on rfl rfl ?_
            refine WL.y (Yl.move rfl) rfl ?_ -- t166
            refine WL.both (t := 166) rfl (fun g166 => ?_) (fun g166 => ?_)
            · refine WL.off rfl rfl rfl rfl ?_ -- t167
              refine WL.off rfl rfl rfl rfl ?_ -- t168
              refine WL.off rfl rfl rfl rfl ?_ -- t169
              refine WL.off rfl rfl rfl rfl ?_ -- t170
              refine WL.off rfl rfl rfl rfl ?_ -- t171
              refine WL.off rfl rfl rfl rfl ?_ -- t172
              refine WL.off rfl rfl rfl rfl ?_ -- t173
              refine WL.off rfl rfl rfl rfl ?_ -- t174
              refine WL.on rfl rfl ?_
              refine WL.y (Yl.pickT rfl rfl) rfl ?_ -- t175
              refine WL.y (Yl.pickT rfl rfl) rfl ?_ -- t176
              refine WL.y (Yl.assign rfl) rfl ?_ -- t10
              refine WL.nil ?_
              refine WC.ret ?_
              repeat (first | (with_reducible refine peelT ?_) | (with_reducible refine peelB ?_) | (with_reducible refine peelTX ?_) | (with_reducible refine peelBX ?_) | (with_reducible refine peelBN ?_) | (with_reducible refine peelBO rfl ?_))
              exact ret1 (.inr rfl) Try.results4 rfl fun w' h => ⟨(), trivial, rfl, h.sub (by repeat (first | exact TakeL.nil | (apply TakeL.cons; · repeat (first | exact Take1.head | apply Take1.tail))))⟩
            · refine WL.on rfl rfl ?_
              refine WL.y (Yl.move rfl) rfl ?_ -- t167
              refine WL.on rfl rfl ?_
              refine WL.y (Yl.move rfl) rfl ?_ -- t168
              refine WL.on rfl rfl ?_
              refine WL.y (Yl.move rfl) rfl ?_ -- t169
              refine WL.on rfl rfl ?_
              refine WL.y (Yl.move rfl) rfl ?_ -- t170
              refine WL.on rfl rfl ?_
              refine WL.callC (xs := [.tmp 167, .tmp 168, .tmp 169, .tmp 170]) (cap := []) rfl rfl en29 (by repeat (first | exact TakeL.nil | (apply TakeL.cons; · repeat (first | exact Take1.head | apply Take1.tail)))) (fun w hw => queryL_any bl bb ao ca r f t o hRG (by omega) w hw.left.here) rfl ?_ -- t171 (*hailer/log.Log).Query
              rintro ⟨⟨d1, d2, d3, d4⟩, own2⟩ -
              refine WL.on rfl rfl ?_
              refine WL.y (Yl.move rfl) rfl ?_ -- t172
              refine WL.on rfl rfl ?_
              refine WL.y (Yl.move rfl) rfl ?_ -- t173
              refine WL.on rfl rfl ?_
              refine WL.view (fun w h => h.readOnly (v := .slice a127 (queryF f t o r).length c127) (by repeat (first | exact Take1.head | apply Take1.tail))) ?_
              refine WL.callC (xs := [.tmp 171, .tmp 172, .tmp 173]) (cap := []) rfl rfl en27 (by repeat (first | exact TakeL.nil | (apply TakeL.cons; · repeat (first | exact Take1.head | apply Take1.tail)))) (fun w hw => areR_any 53 [.pointer (some ⟨d1, 0, none⟩), .pointer (some ⟨d2, 0, none⟩), .pointer (some ⟨d3, 0, none⟩), .pointer (some ⟨d4, 0, none⟩)] own2 en53 (queryF f t o r) hqo _ left hleft (by omega) w hw.left.here) rfl ?_ -- t174 hailer/hailerlaw25.are[hailer/api.Record]
              rintro ⟨⟩ -
              refine WL.on rfl rfl ?_
              refine WL.y (Yl.pickF rfl rfl) rfl ?_ -- t175
              refine WL.y (Yl.pickT rfl rfl) rfl ?_ -- t176
              refine WL.y (Yl.assign rfl) rfl ?_ -- t10
              refine WL.nil ?_
              refine WC.ret ?_
              repeat (first | (with_reducible refine peelT ?_) | (with_reducible refine peelB ?_) | (with_reducible refine peelTX ?_) | (with_reducible refine peelBX ?_) | (with_reducible refine peelBN ?_) | (with_reducible refine peelBO rfl ?_))
              exact ret1 (.inr rfl) Try.results4 rfl fun w' h => ⟨(), trivial, rfl, h.sub (by repeat (first | exact TakeL.nil | (apply TakeL.cons; · repeat (first | exact Take1.head | apply Take1.tail))))⟩
        · refine WO.callC (xs := [.tmp 147]) (cap := []) rfl (.on rfl rfl) rfl rfl en26 (by repeat (first | exact TakeL.nil | (apply TakeL.cons; · repeat (first | exact Take1.head | apply Take1.tail)))) (fun w hw => rbytesL_any _ r hRG (by omega) w (hw.src (A := []) (RdOf.own (v := .slice bo r.length cb)) (by repeat (first | exact Take1.head | apply Take1.tail))) hw.left.here) rfl (fun _ => ⟨_, (by repeat (first | exact TakeL.nil | (apply TakeL.cons; · repeat (first | exact Take1.head | apply Take1.tail))))⟩) ?_ -- t148 hailer/hailerref25.Bytes
          rintro ⟨a148, c148⟩ -
          dsimp only
          refine WD.two 8 11 (by kernel_rfl) ?_ ?_
          · refine WO.y rfl rfl (.on rfl rfl) (Yl.toStr un56 un5 un9 rfl ((Reads.of (RdOf.own (v := .slice a145 (allB r).length c145) (e := 5) (cs := ints .u8 (allB r))) (by repeat (first | exact Take1.head | apply Take1.tail))))) rfl ?_ -- t146
            refine WD.one 11 (by kernel_rfl) ?_
            refine WO.y rfl rfl (.on rfl rfl) (Yl.toStr un56 un5 un9 rfl ((Reads.of (RdOf.own (v := .slice a148 (allB r).length c148) (e := 5) (cs := ints .u8 (allB r))) (by repeat (first | exact Take1.head | apply Take1.tail))))) rfl ?_ -- t149
            refine WD.takeOn 12 rfl (by kernel_rfl) (by kernel_rfl) (by kernel_rfl) rfl rfl rfl rfl (Yl.sNe rfl rfl) rfl ?_ -- t150
            refine WD.know (t := 150) (b' := false) rfl (by simp) ?_
            refine WD.take 13 rfl (by kernel_rfl) (by kernel_rfl) (by kernel_rfl) rfl rfl (Yl.pickF rfl rfl) rfl ?_ -- t151
            refine WD.done (by kernel_rfl) ?_
            refine WC.condF rfl (by first | rfl | (simp; done) | (simp; omega)) ?_
            refine WC.skip ?_
            refine WC.seq ?_
            refine WC.region ?_
            refine WL.y (Yl.move rfl) rfl ?_ -- t152
            refine WL.y (Yl.len un39 rfl) rfl ?_ -- t153
            refine WL.y (Yl.eql rfl rfl) rfl ?_ -- t154
            refine WL.y (Yl.move rfl) rfl ?_ -- t155
            refine WL.both (t := 155) rfl (fun g155 => ?_) (fun g155 => ?_)
            · refine WL.off rfl rfl rfl rfl ?_ -- t156
              refine WL.off rfl rfl rfl rfl ?_ -- t157
              refine WL.off rfl rfl rfl rfl ?_ -- t158
              refine WL.off rfl rfl rfl rfl ?_ -- t159
              refine WL.off rfl rfl rfl rfl ?_ -- t160
              refine WL.y (Yl.pickT rfl rfl) rfl ?_ -- t161
              refine WL.know (t := 161) (b' := true) rfl (by first | rfl | (simp; done) | (simp; omega)) ?_
              refine WL.y (Yl.move rfl) rfl ?_ -- t162
              refine WL.on rfl rfl ?_
              refine WL.y (Yl.move rfl) rfl ?_ -- t163
              refine WL.on rfl rfl ?_
              refine WL.y (Yl.len un39 rfl) rfl ?_ -- t164
              refine WL.on rfl rfl ?_
              refine WL.y (Yl.eql rfl rfl) rfl ?_ -- t165
              refine WL.on rfl rfl ?_
              refine WL.y (Yl.move rfl) rfl ?_ -- t166
              refine WL.both (t := 166) rfl (fun g166 => ?_) (fun g166 => ?_)
              · refine WL.off rfl rfl rfl rfl ?_ -- t167
                refine WL.off rfl rfl rfl rfl ?_ -- t168
                refine WL.off rfl rfl rfl rfl ?_ -- t169
                refine WL.off rfl rfl rfl rfl ?_ -- t170
                refine WL.off rfl rfl rfl rfl ?_ -- t171
                refine WL.off rfl rfl rfl rfl ?_ -- t172
                refine WL.off rfl rfl rfl rfl ?_ -- t173
                refine WL.off rfl rfl rfl rfl ?_ -- t174
                refine WL.on rfl rfl ?_
                refine WL.y (Yl.pickT rfl rfl) rfl ?_ -- t175
                refine WL.y (Yl.pickT rfl rfl) rfl ?_ -- t176
                refine WL.y (Yl.assign rfl) rfl ?_ -- t10
                refine WL.nil ?_
                refine WC.ret ?_
                repeat (first | (with_reducible refine peelT ?_) | (with_reducible refine peelB ?_) | (with_reducible refine peelTX ?_) | (with_reducible refine peelBX ?_) | (with_reducible refine peelBN ?_) | (with_reducible refine peelBO rfl ?_))
                exact ret1 (.inr rfl) Try.results4 rfl fun w' h => ⟨(), trivial, rfl, h.sub (by repeat (first | exact TakeL.nil | (apply TakeL.cons; · repeat (first | exact Take1.head | apply Take1.tail))))⟩
              · refine WL.on rfl rfl ?_
                refine WL.y (Yl.move rfl) rfl ?_ -- t167
                refine WL.on rfl rfl ?_
                refine WL.y (Yl.move rfl) rfl ?_ -- t168
                refine WL.on rfl rfl ?_
                refine WL.y (Yl.move rfl) rfl ?_ -- t169
                refine WL.on rfl rfl ?_
                refine WL.y (Yl.move rfl) rfl ?_ -- t170
                refine WL.on rfl rfl ?_
                refine WL.callC (xs := [.tmp 167, .tmp 168, .tmp 169, .tmp 170]) (cap := []) rfl rfl en29 (by repeat (first | exact TakeL.nil | (apply TakeL.cons; · repeat (first | exact Take1.head | apply Take1.tail)))) (fun w hw => queryL_any bl bb ao ca r f t o hRG (by omega) w hw.left.here) rfl ?_ -- t171 (*hailer/log.Log).Query
                rintro ⟨⟨d1, d2, d3, d4⟩, own2⟩ -
                refine WL.on rfl rfl ?_
                refine WL.y (Yl.move rfl) rfl ?_ -- t172
                refine WL.on rfl rfl ?_
                refine WL.y (Yl.move rfl) rfl ?_ -- t173
                refine WL.on rfl rfl ?_
                refine WL.view (fun w h => h.readOnly (v := .slice a127 (queryF f t o r).length c127) (by repeat (first | exact Take1.head | apply Take1.tail))) ?_
                refine WL.callC (xs := [.tmp 171, .tmp 172, .tmp 173]) (cap := []) rfl rfl en27 (by repeat (first | exact TakeL.nil | (apply TakeL.cons; · repeat (first | exact Take1.head | apply Take1.tail)))) (fun w hw => areR_any 53 [.pointer (some ⟨d1, 0, none⟩), .pointer (some ⟨d2, 0, none⟩), .pointer (some ⟨d3, 0, none⟩), .pointer (some ⟨d4, 0, none⟩)] own2 en53 (queryF f t o r) hqo _ left hleft (by omega) w hw.left.here) rfl ?_ -- t174 hailer/hailerlaw25.are[hailer/api.Record]
                rintro ⟨⟩ -
                refine WL.on rfl rfl ?_
                refine WL.y (Yl.pickF rfl rfl) rfl ?_ -- t175
                refine WL.y (Yl.pickT rfl rfl) rfl ?_ -- t176
                refine WL.y (Yl.assign rfl) rfl ?_ -- t10
                refine WL.nil ?_
                refine WC.ret ?_
                repeat (first | (with_reducible refine peelT ?_) | (with_reducible refine peelB ?_) | (with_reducible refine peelTX ?_) | (with_reducible refine peelBX ?_) | (with_reducible refine peelBN ?_) | (with_reducible refine peelBO rfl ?_))
                exact ret1 (.inr rfl) Try.results4 rfl fun w' h => ⟨(), trivial, rfl, h.sub (by repeat (first | exact TakeL.nil | (apply TakeL.cons; · repeat (first | exact Take1.head | apply Take1.tail))))⟩
            · refine WL.on rfl rfl ?_
              refine WL.y (Yl.move rfl) rfl ?_ -- t156
              refine WL.on rfl rfl ?_
              refine WL.callC (xs := [.tmp 156]) (cap := []) rfl rfl en28 (by repeat (first | exact TakeL.nil | (apply TakeL.cons; · repeat (first | exact Take1.head | apply Take1.tail)))) (fun w hw => nwRd_any bl bb ao ca r hRG (by omega) w hw.left.here) rfl ?_ -- t157 (*hailer/log.Log).Newest
              rintro ⟨bn, own⟩ -
              refine WL.on rfl rfl ?_
              refine WL.y (Yl.move rfl) rfl ?_ -- t158
              refine WL.on rfl rfl ?_
              refine WL.y (Yl.move rfl) rfl ?_ -- t159
              refine WL.on rfl rfl ?_
              refine WL.view (fun w h => h.readOnly (v := .slice a122 r.reverse.length c122) (by repeat (first | exact Take1.head | apply Take1.tail))) ?_
              refine WL.callC (xs := [.tmp 157, .tmp 158, .tmp 159]) (cap := []) rfl rfl en27 (by repeat (first | exact TakeL.nil | (apply TakeL.cons; · repeat (first | exact Take1.head | apply Take1.tail)))) (fun w hw => areR_any 51 [.pointer (some ⟨bn, 0, none⟩)] own en51 r.reverse hrv _ left hleft (by rw [List.length_reverse]; omega) w hw.left.here) rfl ?_ -- t160 hailer/hailerlaw25.are[hailer/api.Record]
              rintro ⟨⟩ -
              refine WL.y (Yl.pickF rfl rfl) rfl ?_ -- t161
              refine WL.know (t := 161) (b' := true) rfl (by first | rfl | (simp; done) | (simp; omega)) ?_
              refine WL.y (Yl.move rfl) rfl ?_ -- t162
              refine WL.on rfl rfl ?_
              refine WL.y (Yl.move rfl) rfl ?_ -- t163
              refine WL.on rfl rfl ?_
              refine WL.y (Yl.len un39 rfl) rfl ?_ -- t164
              refine WL.on rfl rfl ?_
              refine WL.y (Yl.eql rfl rfl) rfl ?_ -- t165
              refine WL.on rfl rfl ?_
              refine WL.y (Yl.move rfl) rfl ?_ -- t166
              refine WL.both (t := 166) rfl (fun g166 => ?_) (fun g166 => ?_)
              · refine WL.off rfl rfl rfl rfl ?_ -- t167
                refine WL.off rfl rfl rfl rfl ?_ -- t168
                refine WL.off rfl rfl rfl rfl ?_ -- t169
                refine WL.off rfl rfl rfl rfl ?_ -- t170
                refine WL.off rfl rfl rfl rfl ?_ -- t171
                refine WL.off rfl rfl rfl rfl ?_ -- t172
                refine WL.off rfl rfl rfl rfl ?_ -- t173
                refine WL.off rfl rfl rfl rfl ?_ -- t174
                refine WL.on rfl rfl ?_
                refine WL.y (Yl.pickT rfl rfl) rfl ?_ -- t175
                refine WL.y (Yl.pickT rfl rfl) rfl ?_ -- t176
                refine WL.y (Yl.assign rfl) rfl ?_ -- t10
                refine WL.nil ?_
                refine WC.ret ?_
                repeat (first | (with_reducible refine peelT ?_) | (with_reducible refine peelB ?_) | (with_reducible refine peelTX ?_) | (with_reducible refine peelBX ?_) | (with_reducible refine peelBN ?_) | (with_reducible refine peelBO rfl ?_))
                exact ret1 (.inr rfl) Try.results4 rfl fun w' h => ⟨(), trivial, rfl, h.sub (by repeat (first | exact TakeL.nil | (apply TakeL.cons; · repeat (first | exact Take1.head | apply Take1.tail))))⟩
              · refine WL.on rfl rfl ?_
                refine WL.y (Yl.move rfl) rfl ?_ -- t167
                refine WL.on rfl rfl ?_
                refine WL.y (Yl.move rfl) rfl ?_ -- t168
                refine WL.on rfl rfl ?_
                refine WL.y (Yl.move rfl) rfl ?_ -- t169
                refine WL.on rfl rfl ?_
                refine WL.y (Yl.move rfl) rfl ?_ -- t170
                refine WL.on rfl rfl ?_
                refine WL.callC (xs := [.tmp 167, .tmp 168, .tmp 169, .tmp 170]) (cap := []) rfl rfl en29 (by repeat (first | exact TakeL.nil | (apply TakeL.cons; · repeat (first | exact Take1.head | apply Take1.tail)))) (fun w hw => queryL_any bl bb ao ca r f t o hRG (by omega) w hw.left.here) rfl ?_ -- t171 (*hailer/log.Log).Query
                rintro ⟨⟨d1, d2, d3, d4⟩, own2⟩ -
                refine WL.on rfl rfl ?_
                refine WL.y (Yl.move rfl) rfl ?_ -- t172
                refine WL.on rfl rfl ?_
                refine WL.y (Yl.move rfl) rfl ?_ -- t173
                refine WL.on rfl rfl ?_
                refine WL.view (fun w h => h.readOnly (v := .slice a127 (queryF f t o r).length c127) (by repeat (first | exact Take1.head | apply Take1.tail))) ?_
                refine WL.callC (xs := [.tmp 171, .tmp 172, .tmp 173]) (cap := []) rfl rfl en27 (by repeat (first | exact TakeL.nil | (apply TakeL.cons; · repeat (first | exact Take1.head | apply Take1.tail)))) (fun w hw => areR_any 53 [.pointer (some ⟨d1, 0, none⟩), .pointer (some ⟨d2, 0, none⟩), .pointer (some ⟨d3, 0, none⟩), .pointer (some ⟨d4, 0, none⟩)] own2 en53 (queryF f t o r) hqo _ left hleft (by omega) w hw.left.here) rfl ?_ -- t174 hailer/hailerlaw25.are[hailer/api.Record]
                rintro ⟨⟩ -
                refine WL.on rfl rfl ?_
                refine WL.y (Yl.pickF rfl rfl) rfl ?_ -- t175
                refine WL.y (Yl.pickT rfl rfl) rfl ?_ -- t176
                refine WL.y (Yl.assign rfl) rfl ?_ -- t10
                refine WL.nil ?_
                refine WC.ret ?_
                repeat (first | (with_reducible refine peelT ?_) | (with_reducible refine peelB ?_) | (with_reducible refine peelTX ?_) | (with_reducible refine peelBX ?_) | (with_reducible refine peelBN ?_) | (with_reducible refine peelBO rfl ?_))
                exact ret1 (.inr rfl) Try.results4 rfl fun w' h => ⟨(), trivial, rfl, h.sub (by repeat (first | exact TakeL.nil | (apply TakeL.cons; · repeat (first | exact Take1.head | apply Take1.tail))))⟩
          · refine WO.y rfl rfl (.on rfl rfl) (Yl.toStr un56 un5 un9 rfl ((Reads.of (RdOf.own (v := .slice a148 (allB r).length c148) (e := 5) (cs := ints .u8 (allB r))) (by repeat (first | exact Take1.head | apply Take1.tail))))) rfl ?_ -- t149
            refine WD.one 8 (by kernel_rfl) ?_
            refine WO.y rfl rfl (.on rfl rfl) (Yl.toStr un56 un5 un9 rfl ((Reads.of (RdOf.own (v := .slice a145 (allB r).length c145) (e := 5) (cs := ints .u8 (allB r))) (by repeat (first | exact Take1.head | apply Take1.tail))))) rfl ?_ -- t146
            refine WD.takeOn 12 rfl (by kernel_rfl) (by kernel_rfl) (by kernel_rfl) rfl rfl rfl rfl (Yl.sNe rfl rfl) rfl ?_ -- t150
            refine WD.know (t := 150) (b' := false) rfl (by simp) ?_
            refine WD.take 13 rfl (by kernel_rfl) (by kernel_rfl) (by kernel_rfl) rfl rfl (Yl.pickF rfl rfl) rfl ?_ -- t151
            refine WD.done (by kernel_rfl) ?_
            refine WC.condF rfl (by first | rfl | (simp; done) | (simp; omega)) ?_
            refine WC.skip ?_
            refine WC.seq ?_
            refine WC.region ?_
            refine WL.y (Yl.move rfl) rfl ?_ -- t152
            refine WL.y (Yl.len un39 rfl) rfl ?_ -- t153
            refine WL.y (Yl.eql rfl rfl) rfl ?_ -- t154
            refine WL.y (Yl.move rfl) rfl ?_ -- t155
            refine WL.both (t := 155) rfl (fun g155 => ?_) (fun g155 => ?_)
            · refine WL.off rfl rfl rfl rfl ?_ -- t156
              refine WL.off rfl rfl rfl rfl ?_ -- t157
              refine WL.off rfl rfl rfl rfl ?_ -- t158
              refine WL.off rfl rfl rfl rfl ?_ -- t159
              refine WL.off rfl rfl rfl rfl ?_ -- t160
              refine WL.y (Yl.pickT rfl rfl) rfl ?_ -- t161
              refine WL.know (t := 161) (b' := true) rfl (by first | rfl | (simp; done) | (simp; omega)) ?_
              refine WL.y (Yl.move rfl) rfl ?_ -- t162
              refine WL.on rfl rfl ?_
              refine WL.y (Yl.move rfl) rfl ?_ -- t163
              refine WL.on rfl rfl ?_
              refine WL.y (Yl.len un39 rfl) rfl ?_ -- t164
              refine WL.on rfl rfl ?_
              refine WL.y (Yl.eql rfl rfl) rfl ?_ -- t165
              refine WL.on rfl rfl ?_
              refine WL.y (Yl.move rfl) rfl ?_ -- t166
              refine WL.both (t := 166) rfl (fun g166 => ?_) (fun g166 => ?_)
              · refine WL.off rfl rfl rfl rfl ?_ -- t167
                refine WL.off rfl rfl rfl rfl ?_ -- t168
                refine WL.off rfl rfl rfl rfl ?_ -- t169
                refine WL.off rfl rfl rfl rfl ?_ -- t170
                refine WL.off rfl rfl rfl rfl ?_ -- t171
                refine WL.off rfl rfl rfl rfl ?_ -- t172
                refine WL.off rfl rfl rfl rfl ?_ -- t173
                refine WL.off rfl rfl rfl rfl ?_ -- t174
                refine WL.on rfl rfl ?_
                refine WL.y (Yl.pickT rfl rfl) rfl ?_ -- t175
                refine WL.y (Yl.pickT rfl rfl) rfl ?_ -- t176
                refine WL.y (Yl.assign rfl) rfl ?_ -- t10
                refine WL.nil ?_
                refine WC.ret ?_
                repeat (first | (with_reducible refine peelT ?_) | (with_reducible refine peelB ?_) | (with_reducible refine peelTX ?_) | (with_reducible refine peelBX ?_) | (with_reducible refine peelBN ?_) | (with_reducible refine peelBO rfl ?_))
                exact ret1 (.inr rfl) Try.results4 rfl fun w' h => ⟨(), trivial, rfl, h.sub (by repeat (first | exact TakeL.nil | (apply TakeL.cons; · repeat (first | exact Take1.head | apply Take1.tail))))⟩
              · refine WL.on rfl rfl ?_
                refine WL.y (Yl.move rfl) rfl ?_ -- t167
                refine WL.on rfl rfl ?_
                refine WL.y (Yl.move rfl) rfl ?_ -- t168
                refine WL.on rfl rfl ?_
                refine WL.y (Yl.move rfl) rfl ?_ -- t169
                refine WL.on rfl rfl ?_
                refine WL.y (Yl.move rfl) rfl ?_ -- t170
                refine WL.on rfl rfl ?_
                refine WL.callC (xs := [.tmp 167, .tmp 168, .tmp 169, .tmp 170]) (cap := []) rfl rfl en29 (by repeat (first | exact TakeL.nil | (apply TakeL.cons; · repeat (first | exact Take1.head | apply Take1.tail)))) (fun w hw => queryL_any bl bb ao ca r f t o hRG (by omega) w hw.left.here) rfl ?_ -- t171 (*hailer/log.Log).Query
                rintro ⟨⟨d1, d2, d3, d4⟩, own2⟩ -
                refine WL.on rfl rfl ?_
                refine WL.y (Yl.move rfl) rfl ?_ -- t172
                refine WL.on rfl rfl ?_
                refine WL.y (Yl.move rfl) rfl ?_ -- t173
                refine WL.on rfl rfl ?_
                refine WL.view (fun w h => h.readOnly (v := .slice a127 (queryF f t o r).length c127) (by repeat (first | exact Take1.head | apply Take1.tail))) ?_
                refine WL.callC (xs := [.tmp 171, .tmp 172, .tmp 173]) (cap := []) rfl rfl en27 (by repeat (first | exact TakeL.nil | (apply TakeL.cons; · repeat (first | exact Take1.head | apply Take1.tail)))) (fun w hw => areR_any 53 [.pointer (some ⟨d1, 0, none⟩), .pointer (some ⟨d2, 0, none⟩), .pointer (some ⟨d3, 0, none⟩), .pointer (some ⟨d4, 0, none⟩)] own2 en53 (queryF f t o r) hqo _ left hleft (by omega) w hw.left.here) rfl ?_ -- t174 hailer/hailerlaw25.are[hailer/api.Record]
                rintro ⟨⟩ -
                refine WL.on rfl rfl ?_
                refine WL.y (Yl.pickF rfl rfl) rfl ?_ -- t175
                refine WL.y (Yl.pickT rfl rfl) rfl ?_ -- t176
                refine WL.y (Yl.assign rfl) rfl ?_ -- t10
                refine WL.nil ?_
                refine WC.ret ?_
                repeat (first | (with_reducible refine peelT ?_) | (with_reducible refine peelB ?_) | (with_reducible refine peelTX ?_) | (with_reducible refine peelBX ?_) | (with_reducible refine peelBN ?_) | (with_reducible refine peelBO rfl ?_))
                exact ret1 (.inr rfl) Try.results4 rfl fun w' h => ⟨(), trivial, rfl, h.sub (by repeat (first | exact TakeL.nil | (apply TakeL.cons; · repeat (first | exact Take1.head | apply Take1.tail))))⟩
            · refine WL.on rfl rfl ?_
              refine WL.y (Yl.move rfl) rfl ?_ -- t156
              refine WL.on rfl rfl ?_
              refine WL.callC (xs := [.tmp 156]) (cap := []) rfl rfl en28 (by repeat (first | exact TakeL.nil | (apply TakeL.cons; · repeat (first | exact Take1.head | apply Take1.tail)))) (fun w hw => nwRd_any bl bb ao ca r hRG (by omega) w hw.left.here) rfl ?_ -- t157 (*hailer/log.Log).Newest
              rintro ⟨bn, own⟩ -
              refine WL.on rfl rfl ?_
              refine WL.y (Yl.move rfl) rfl ?_ -- t158
              refine WL.on rfl rfl ?_
              refine WL.y (Yl.move rfl) rfl ?_ -- t159
              refine WL.on rfl rfl ?_
              refine WL.view (fun w h => h.readOnly (v := .slice a122 r.reverse.length c122) (by repeat (first | exact Take1.head | apply Take1.tail))) ?_
              refine WL.callC (xs := [.tmp 157, .tmp 158, .tmp 159]) (cap := []) rfl rfl en27 (by repeat (first | exact TakeL.nil | (apply TakeL.cons; · repeat (first | exact Take1.head | apply Take1.tail)))) (fun w hw => areR_any 51 [.pointer (some ⟨bn, 0, none⟩)] own en51 r.reverse hrv _ left hleft (by rw [List.length_reverse]; omega) w hw.left.here) rfl ?_ -- t160 hailer/hailerlaw25.are[hailer/api.Record]
              rintro ⟨⟩ -
              refine WL.y (Yl.pickF rfl rfl) rfl ?_ -- t161
              refine WL.know (t := 161) (b' := true) rfl (by first | rfl | (simp; done) | (simp; omega)) ?_
              refine WL.y (Yl.move rfl) rfl ?_ -- t162
              refine WL.on rfl rfl ?_
              refine WL.y (Yl.move rfl) rfl ?_ -- t163
              refine WL.on rfl rfl ?_
              refine WL.y (Yl.len un39 rfl) rfl ?_ -- t164
              refine WL.on rfl rfl ?_
              refine WL.y (Yl.eql rfl rfl) rfl ?_ -- t165
              refine WL.on rfl rfl ?_
              refine WL.y (Yl.move rfl) rfl ?_ -- t166
              refine WL.both (t := 166) rfl (fun g166 => ?_) (fun g166 => ?_)
              · refine WL.off rfl rfl rfl rfl ?_ -- t167
                refine WL.off rfl rfl rfl rfl ?_ -- t168
                refine WL.off rfl rfl rfl rfl ?_ -- t169
                refine WL.off rfl rfl rfl rfl ?_ -- t170
                refine WL.off rfl rfl rfl rfl ?_ -- t171
                refine WL.off rfl rfl rfl rfl ?_ -- t172
                refine WL.off rfl rfl rfl rfl ?_ -- t173
                refine WL.off rfl rfl rfl rfl ?_ -- t174
                refine WL.on rfl rfl ?_
                refine WL.y (Yl.pickT rfl rfl) rfl ?_ -- t175
                refine WL.y (Yl.pickT rfl rfl) rfl ?_ -- t176
                refine WL.y (Yl.assign rfl) rfl ?_ -- t10
                refine WL.nil ?_
                refine WC.ret ?_
                repeat (first | (with_reducible refine peelT ?_) | (with_reducible refine peelB ?_) | (with_reducible refine peelTX ?_) | (with_reducible refine peelBX ?_) | (with_reducible refine peelBN ?_) | (with_reducible refine peelBO rfl ?_))
                exact ret1 (.inr rfl) Try.results4 rfl fun w' h => ⟨(), trivial, rfl, h.sub (by repeat (first | exact TakeL.nil | (apply TakeL.cons; · repeat (first | exact Take1.head | apply Take1.tail))))⟩
              · refine WL.on rfl rfl ?_
                refine WL.y (Yl.move rfl) rfl ?_ -- t167
                refine WL.on rfl rfl ?_
                refine WL.y (Yl.move rfl) rfl ?_ -- t168
                refine WL.on rfl rfl ?_
                refine WL.y (Yl.move rfl) rfl ?_ -- t169
                refine WL.on rfl rfl ?_
                refine WL.y (Yl.move rfl) rfl ?_ -- t170
                refine WL.on rfl rfl ?_
                refine WL.callC (xs := [.tmp 167, .tmp 168, .tmp 169, .tmp 170]) (cap := []) rfl rfl en29 (by repeat (first | exact TakeL.nil | (apply TakeL.cons; · repeat (first | exact Take1.head | apply Take1.tail)))) (fun w hw => queryL_any bl bb ao ca r f t o hRG (by omega) w hw.left.here) rfl ?_ -- t171 (*hailer/log.Log).Query
                rintro ⟨⟨d1, d2, d3, d4⟩, own2⟩ -
                refine WL.on rfl rfl ?_
                refine WL.y (Yl.move rfl) rfl ?_ -- t172
                refine WL.on rfl rfl ?_
                refine WL.y (Yl.move rfl) rfl ?_ -- t173
                refine WL.on rfl rfl ?_
                refine WL.view (fun w h => h.readOnly (v := .slice a127 (queryF f t o r).length c127) (by repeat (first | exact Take1.head | apply Take1.tail))) ?_
                refine WL.callC (xs := [.tmp 171, .tmp 172, .tmp 173]) (cap := []) rfl rfl en27 (by repeat (first | exact TakeL.nil | (apply TakeL.cons; · repeat (first | exact Take1.head | apply Take1.tail)))) (fun w hw => areR_any 53 [.pointer (some ⟨d1, 0, none⟩), .pointer (some ⟨d2, 0, none⟩), .pointer (some ⟨d3, 0, none⟩), .pointer (some ⟨d4, 0, none⟩)] own2 en53 (queryF f t o r) hqo _ left hleft (by omega) w hw.left.here) rfl ?_ -- t174 hailer/hailerlaw25.are[hailer/api.Record]
                rintro ⟨⟩ -
                refine WL.on rfl rfl ?_
                refine WL.y (Yl.pickF rfl rfl) rfl ?_ -- t175
                refine WL.y (Yl.pickT rfl rfl) rfl ?_ -- t176
                refine WL.y (Yl.assign rfl) rfl ?_ -- t10
                refine WL.nil ?_
                refine WC.ret ?_
                repeat (first | (with_reducible refine peelT ?_) | (with_reducible refine peelB ?_) | (with_reducible refine peelTX ?_) | (with_reducible refine peelBX ?_) | (with_reducible refine peelBN ?_) | (with_reducible refine peelBO rfl ?_))
                exact ret1 (.inr rfl) Try.results4 rfl fun w' h => ⟨(), trivial, rfl, h.sub (by repeat (first | exact TakeL.nil | (apply TakeL.cons; · repeat (first | exact Take1.head | apply Take1.tail))))⟩
end Go.Proofs.Ytpjgmiemamcdhaa
