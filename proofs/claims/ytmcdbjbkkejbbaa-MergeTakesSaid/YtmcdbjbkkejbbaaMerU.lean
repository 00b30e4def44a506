/- MergeTakes: the law. -/
import Derived.Test.YtmcdbjbkkejbbaaMerT
import Derived.Test.YtmcdbjbkkejbbaaMerQ
namespace Go.Proofs.Ytmcdbjbkkejbbaa
open Go Go.RowKit
section
variable {c : Cx} {env : Env} {ds : List Deferred} {H : List Res} {dst : Option Tmp} {ty : TypeId} {pos : String} {af : Array Edge} {g : Option (Nat × Bool)}
/-- An element, of many cells, of an array that is a value. -/
theorem Yl.idxN {t e : TypeId} {x i : Operand} {k : IntKind} {z : Int} {j n m : Nat} {cs cs' : List Value} (hu : c.P.underlying t = some (.array n e)) (ho : aggB c.P e m = true) (hx : ev env x = some (.agg cs.toArray)) (hi : ev env i = some (.int k z)) (hz : z = (j : Int)) (hj : j < n) (hl : j * m + m ≤ cs.length) (he : (cs.drop (j * m)).take m = cs') :
    Yl c env ds H ⟨dst, .index t x i, ty, pos, af, g⟩ (.agg cs'.toArray) := fun a w ha _ => by
  subst hz he
  have hjz : (0 : Int) ≤ (j : Int) ∧ (j : Int) < (n : Int) := ⟨by omega, by omega⟩
  have key : (isAgg e).run c.P w = .ok true w ∧ (sizeOf e).run c.P w = .ok m w := by
    unfold aggB at ho
    cases hue : c.P.underlying e with
    | none => rw [hue] at ho; cases ho
    | some d =>
      rw [hue] at ho
      cases hq : c.P.info? e with
      | none => rw [hq] at ho; cases d <;> cases ho
      | some q =>
        rw [hq] at ho
        have hs : (sizeOf e).run c.P w = .ok q.size w := by simp [sizeOf, typeInfo, hq]
        have ha : (isAgg e).run c.P w = .ok true w ∧ q.size = m := by
          unfold isAgg
          rw [Sem.run_bind, run_underlying hue w]
          cases d <;> first | cases ho | exact ⟨rfl, Nat.eq_of_beq_eq_true ho⟩
        exact ⟨ha.1, by rw [hs, ha.2]⟩
  have hex : cs.toArray.extract (j * m) (j * m + m) = ((cs.drop (j * m)).take m).toArray := by simp
  simp [execOp, Instr.index, asIntOf, ha.ev hx, ha.ev hi, run_underlying hu, hjz, key.2, part, key.1, hex]
  exact fun h => absurd h (by omega)
end
theorem digF_by (l : List Rc) : Bytes (digF l) := fun x hx => sum256_by _ x (List.mem_of_mem_take hx)
theorem joinF_len (xs : List Rc) : (joinF [] xs).1.length ≤ xs.length := by simpa using (join_len xs []).1
/-- What is found of a record that was taken in: one that is better, or it. -/
theorem found_take {l : List Rc} {r : Rc} (hB : Book l) (hr : r.ok) (hm : mayB r = true) : ∃ y, findF (takeF l r).1 r.id = some y ∧ Bk y ∧ betF y r ≤ 0 := by
  have hB2 : Book (takeF l r).1 := hB.take hr
  have hex : ∃ y ∈ (takeF l r).1, y.id = r.id ∧ betF y r ≤ 0 := by
    have hb : Best l l := ⟨hB, fun _ h => h, fun s hs hms => ⟨s, hs, rfl, by rw [bet_self]; exact Int.le_refl _⟩⟩
    obtain ⟨y, h1, h2, h3⟩ := (best_take hb hr).top r (by simp) hm
    exact ⟨y, h1, h2, h3⟩
  obtain ⟨y, hy, he, hle⟩ := hex
  cases hf : findF (takeF l r).1 r.id with
  | none =>
    exact absurd (List.find?_eq_none.1 hf y hy) (by simp [he])
  | some z =>
    have hz := List.mem_of_find?_eq_some hf
    have hze : z.id = r.id := by simpa using List.find?_some hf
    have : z = y := by
      obtain ⟨i, hi⟩ := List.mem_iff_getElem?.1 hz
      obtain ⟨j, hj⟩ := List.mem_iff_getElem?.1 hy
      by_cases e : i = j
      · subst e; rw [hi] at hj; cases hj; rfl
      · exfalso
        obtain ⟨l1, e1⟩ := List.getElem?_eq_some_iff.1 hi
        obtain ⟨l2, e2⟩ := List.getElem?_eq_some_iff.1 hj
        rcases Nat.lt_or_gt_of_ne e with h | h
        · have := List.pairwise_iff_getElem.1 hB2.ids i j l1 l2 h
          rw [e1, e2] at this
          exact this (hze.trans he.symm)
        · have := List.pairwise_iff_getElem.1 hB2.ids j i l2 l1 h
          rw [e1, e2] at this
          exact this (he.trans hze.symm)
    subst this
    exact ⟨z, rfl, hB2.bk z hz, hle⟩
theorem better_keeps {y r : Rc} (h : betF y r ≤ 0) : betterF y r = y := by unfold betterF; rw [if_neg (by omega)]
def wN (xs : List Rc) (k : Nat) : List Rc := (joinF [] (xs.take k)).1
theorem wN_next {xs : List Rc} {k : Nat} {x : Rc} (h : xs[k]? = some x) : wN xs (k + 1) = (takeF (wN xs k) x).1 := by unfold wN; rw [← take_snoc _ _ _ h, join_snoc]
theorem wN_book {xs : List Rc} (h : ROk xs) (k : Nat) : Book (wN xs k) := Book.nil.join fun r hr => h r (List.mem_of_mem_take hr)
theorem wN_len (xs : List Rc) (k : Nat) : (wN xs k).length ≤ xs.length := Nat.le_trans (joinF_len _) (by rw [List.length_take]; omega)
set_option maxRecDepth 100000 in
set_option maxHeartbeats 1000000 in
theorem takes_any (v : Value) (xs : List Rc) (hx : ROk xs) (lx : xs.length ≤ 281474976710656) (w : World) (hw : OK w (fpL [rdR v 22 xs.length (vcs rcV xs)]) [rdR v 22 xs.length (vcs rcV xs)] w) :
    Fn Try.prog 3 [v] [rdR v 22 xs.length (vcs rcV xs)] w (fun _ : Unit => True) (fun _ => .bool true) (fun _ => []) := by
  obtain ⟨al, cl, rfl, hcl, hml⟩ := (hw.get .head : Rd _ _ _ _ _).form
  refine enterF Try.func3 rfl Try.ntmps3 rfl hw ?_
  refine WC.seq ?_
  refine WC.region ?_
  refine WL.y (Yl.assign rfl) rfl ?_ -- t2
  refine WL.nil ?_
  refine WC.seq ?_
  refine WC.seq ?_
  refine WC.region ?_
  refine WL.callC (xs := []) (cap := []) rfl rfl en6 (by repeat (first | exact TakeL.nil | (apply TakeL.cons; · repeat (first | exact Take1.head | apply Take1.tail)))) (fun w hw => known_any w hw.left.here) rfl ?_ -- t17 hailer/hailerlaw36.known
  rintro ⟨⟩ -
  refine WL.y (Yl.not rfl) rfl ?_ -- t18
  refine WL.know (t := 18) (b' := false) rfl (by first | rfl | (simp; done) | (simp; omega)) ?_
  refine WL.nil ?_
  refine WC.condF rfl (by first | rfl | (simp; done) | (simp; omega)) ?_
  refine WC.skip ?_
  refine WC.seq ?_
  refine WC.seq ?_
  refine WC.region ?_
  refine WL.y (Yl.move rfl) rfl ?_ -- t19
  refine WL.to (To.buildSlice (vs := [.slice al xs.length cl]) un56 zs22 rfl rfl (by simp [Value.cells]) (by decide) (by decide)) rfl ?_ -- t20
  intro b20
  refine WL.callC (xs := [.tmp 20]) (cap := []) rfl rfl en7 (by repeat (first | exact TakeL.nil | (apply TakeL.cons; · repeat (first | exact Take1.head | apply Take1.tail)))) (fun w hw => heavy_any (.slice (some ⟨b20, 0, none⟩) 1 1) [(al, xs.length, cl)] (by simp) (by intro y hy; rw [List.mem_singleton.1 hy]; exact lx) w (hw.src (A := []) (RdOf.blk (size := 1) (n := 1) (cs := [.slice al xs.length cl]) (Nat.le_refl _) (by unfold maxLen; omega) (by simp) rfl) (by repeat (first | exact Take1.head | apply Take1.tail))) hw.left.here) rfl ?_ -- t21 hailer/hailerlaw36.heavy
  rintro ⟨⟩ -
  refine WL.nil ?_
  refine WC.cond rfl (fun g21 => ?_) (fun g21 => ?_)
  · refine WC.seq ?_
    refine WC.region ?_
    refine WL.y (Yl.assign rfl) rfl ?_ -- t2
    refine WL.nil ?_
    refine WC.ret ?_
    repeat (first | (with_reducible refine peelT ?_) | (with_reducible refine peelB ?_) | (with_reducible refine peelTX ?_) | (with_reducible refine peelBX ?_) | (with_reducible refine peelBN ?_) | (with_reducible refine peelBO rfl ?_))
    exact ret1 (.inr rfl) Try.results3 rfl fun w' h => ⟨(), trivial, rfl, h.sub (by repeat (first | exact TakeL.nil | (apply TakeL.cons; · repeat (first | exact Take1.head | apply Take1.tail))))⟩
  · refine WC.skip ?_
    refine WC.seq ?_
    have hsm : xs.length ≤ 200 := by simpa using g21
    refine WC.region ?_
    refine WL.callC (xs := []) (cap := []) rfl rfl en8 (by repeat (first | exact TakeL.nil | (apply TakeL.cons; · repeat (first | exact Take1.head | apply Take1.tail)))) (fun w hw => newM_any w hw.left.here) rfl ?_ -- t22 hailer/merge.New
    rintro b -
    dsimp only [bkR, List.cons_append, List.nil_append]
    refine WL.y (Yl.assign rfl) rfl ?_ -- t3
    refine WL.nil ?_
    refine WC.seq ?_
    refine WC.region ?_
    refine WL.y (Yl.assign rfl) rfl ?_ -- t4
    refine WL.nil ?_
    refine WC.seq ?_
    refine WC.seq ?_
    refine WC.region ?_
    refine WL.y (Yl.move rfl) rfl ?_ -- t23
    refine WL.y (Yl.len un22 rfl) rfl ?_ -- t24
    refine WL.y (Yl.move rfl) rfl ?_ -- t25
    refine WL.nil ?_
    refine WC.block ?_
    refine WC.view (fun w h => (h.addNil 31 22).readOnly (v := .slice none 0 0) .head) ?_
    refine WC.loop (α := Nat × (Option Addr × Nat) × (Option Addr × Nat)) (fun s => [(0, .slice al xs.length cl), (3, .pointer (some ⟨b, 0, none⟩)), (4, .slice s.2.2.1 (wN xs s.1).length s.2.2.2), (23, .slice al xs.length cl), (24, .int .i64 (xs.length : Int)), (25, .int .i64 (s.1 : Int))]) (fun s => [rdR (.slice al xs.length cl) 22 xs.length (vcs rcV xs), blkR b 72 [.slice s.2.1.1 (wN xs s.1).length s.2.1.2], ownR (.slice s.2.1.1 (wN xs s.1).length s.2.1.2) 31 22 (wN xs s.1).length (vcs rcV (wN xs s.1)), rdR (.slice s.2.2.1 (wN xs s.1).length s.2.2.2) 22 (wN xs s.1).length (vcs rcV (wN xs s.1))]) (fun s => s.1 ≤ xs.length) (fun s => xs.length - s.1) (0, (none, 0), (none, 0)) (Nat.zero_le _) ⟨(by repeat (first | exact Sub.nil | refine Sub.cons rfl ?_)), _, (by repeat (first | exact TakeL.nil | (apply TakeL.cons; · repeat (first | exact Take1.head | apply Take1.tail))))⟩ ?_
    rintro ⟨k, ⟨aoB, caB⟩, ⟨aoW, caW⟩⟩ hk
    dsimp only at hk ⊢
    have hwb := wN_book hx k
    have hwl := wN_len xs k
    refine WC.seq ?_
    refine WC.region ?_
    refine WL.y (Yl.lss rfl rfl) rfl ?_ -- t26
    refine WL.nil ?_
    refine WC.seq ?_
    refine WC.condD rfl (fun g26 => ?_) (fun g26 => ?_)
    · refine WC.skip ?_
      refine WC.seq ?_
      refine WC.block ?_
      refine WC.seq ?_
      refine WC.region ?_
      refine WL.y (Yl.move rfl) rfl ?_ -- t27
      have hkl : k < xs.length := by omega
      obtain ⟨x, hxx⟩ : ∃ x, xs[k]? = some x := ⟨_, List.getElem?_eq_getElem hkl⟩
      have hxo := hx.get hxx
      have h22 := Rc.cells_len hxo.len
      have hnx := wN_next hxx
      have hwb2 := wN_book hx (k + 1)
      have hwl2 := wN_len xs (k + 1)
      refine WL.y (Yl.index un22 sz31 rfl rfl (Reads.of (r := rdR (.slice al xs.length cl) 22 xs.length (vcs rcV xs)) RdOf.rd' (by repeat (first | exact Take1.head | apply Take1.tail))) rfl (by omega)) rfl ?_ -- t28
      refine WL.y (Yl.loadV (j := k) (u := x) vtR hx rfl (Reads.of (r := rdR (.slice al xs.length cl) 22 xs.length (vcs rcV xs)) RdOf.rd' (by repeat (first | exact Take1.head | apply Take1.tail))) rfl hxx) rfl ?_
      refine WL.to (To.alloc (cs := Rc.zero.cells) zr31 rfl) rfl ?_ -- t6
      intro b6
      refine WL.y (Yl.assign rfl) rfl ?_ -- t5
      refine WL.sto (Sto.agg sz31 rfl rfl (by repeat (first | exact Take1.head | apply Take1.tail)) (Rc.ones _) h22 (by rfl) (Rc.all (r := Rc.zero) rfl x.cells h22)) (fun _ h => nomatch h) ?_ -- st 1
      refine WL.nil ?_
      refine WC.seq ?_
      refine WC.region ?_
      refine WL.y (Yl.move rfl) rfl ?_ -- t31
      refine WL.y (Yl.loadN ag31 rfl (by repeat (first | exact Take1.head | apply Take1.tail)) (leB (by rw [h22]; omega)) (Rc.call hxo.len)) rfl ?_ -- t32
      refine WL.callC (xs := [.tmp 31, .tmp 32]) (cap := []) rfl rfl en9 (by repeat (first | exact TakeL.nil | (apply TakeL.cons; · repeat (first | exact Take1.head | apply Take1.tail)))) (fun w hw => takeM_any b aoB caB (wN xs k) x hwb hxo (by omega) w hw.left.here) rfl ?_ -- t33 (*hailer/merge.Book).Take
      rintro ⟨ao33, ca33⟩ -
      rw [← hnx]
      dsimp only [bkR, List.cons_append, List.nil_append]
      refine WL.y (Yl.move rfl) rfl ?_ -- t30
      refine WL.y (Yl.extract rfl rfl) rfl ?_ -- t34
      refine WL.y (Yl.extract rfl rfl) rfl ?_ -- t35
      refine WL.y (Yl.assign rfl) rfl ?_ -- t7
      refine WL.y (Yl.assign rfl) rfl ?_ -- t8
      refine WL.nil ?_
      refine WC.seq ?_
      refine WC.region ?_
      refine WL.y (Yl.move rfl) rfl ?_ -- t37
      refine WL.y (Yl.loadN ag31 rfl (by repeat (first | exact Take1.head | apply Take1.tail)) (leB (by rw [h22]; omega)) (Rc.call hxo.len)) rfl ?_ -- t38
      refine WL.callC (xs := [.tmp 37, .tmp 38]) (cap := []) rfl rfl en10 (by repeat (first | exact TakeL.nil | (apply TakeL.cons; · repeat (first | exact Take1.head | apply Take1.tail)))) (fun w hw => takeR_any aoW caW (wN xs k) x hwb hxo (by omega) w hw.left.here) rfl ?_ -- t39 hailer/hailerref36.Take
      rintro ⟨ao39, ca39⟩ -
      rw [← hnx]
      dsimp only [List.cons_append, List.nil_append]
      obtain ⟨L', hL'⟩ : ∃ l, wN xs (k + 1) = l := ⟨_, rfl⟩
      obtain ⟨ch, hch⟩ : ∃ c, (takeF (wN xs k) x).2 = c := ⟨_, rfl⟩
      obtain ⟨mb, hmb⟩ : ∃ c, mayB x = c := ⟨_, rfl⟩
      rw [hL', hch, hmb]
      rw [hL'] at hnx hwb2 hwl2
      refine WL.y (Yl.move rfl) rfl ?_ -- t36
      refine WL.y (Yl.extract rfl rfl) rfl ?_ -- t40
      refine WL.y (Yl.extract rfl rfl) rfl ?_ -- t41
      refine WL.y (Yl.extract rfl rfl) rfl ?_ -- t42
      refine WL.y (Yl.assign rfl) rfl ?_ -- t9
      refine WL.y (Yl.assign rfl) rfl ?_ -- t10
      refine WL.y (Yl.assign rfl) rfl ?_ -- t11
      refine WL.nil ?_
      refine WC.seq ?_
      refine WC.region ?_
      refine WL.y (Yl.move rfl) rfl ?_ -- t43
      refine WL.y (Yl.assign rfl) rfl ?_ -- t4
      refine WL.nil ?_
      refine WC.midX (α := Unit) (fun _ => [(0, .slice al xs.length cl), (3, .pointer (some ⟨b, 0, none⟩)), (4, .slice ao39 L'.length ca39), (5, .int .i64 (k : Int)), (6, .pointer (some ⟨b6, 0, none⟩)), (11, .bool mb), (23, .slice al xs.length cl), (24, .int .i64 (xs.length : Int)), (25, .int .i64 (k : Int))]) (fun _ => [rdR (.slice al xs.length cl) 22 xs.length (vcs rcV xs), blkR b 72 [.slice ao33 L'.length ca33], ownR (.slice ao33 L'.length ca33) 31 22 L'.length (vcs rcV L'), rdR (.slice ao39 L'.length ca39) 22 L'.length (vcs rcV L'), blkR b6 31 x.cells]) (fun _ => True) ?_ ?_
      · refine WC.seq ?_
        refine WC.region ?_
        refine WL.y (Yl.move rfl) rfl ?_ -- t44
        refine WL.y (Yl.move rfl) rfl ?_ -- t45
        refine WL.y (Yl.bNe un4 rfl rfl) rfl ?_ -- t46
        refine WL.know (t := 46) (b' := false) rfl (by first | rfl | (simp; done) | (simp; omega)) ?_
        refine WL.y (Yl.move rfl) rfl ?_ -- t47
        refine WL.know (t := 47) (b' := false) rfl (by first | rfl | (simp; done) | (simp; omega)) ?_
        refine WL.on rfl rfl ?_
        refine WL.y (Yl.move rfl) rfl ?_ -- t48
        refine WL.on rfl rfl ?_
        refine WL.y (Yl.eql rfl rfl) rfl ?_ -- t49
        refine WL.on rfl rfl ?_
        refine WL.y (Yl.move rfl) rfl ?_ -- t50
        refine WL.on rfl rfl ?_
        refine WL.y (Yl.bNe un4 rfl rfl) rfl ?_ -- t51
        refine WL.know (t := 51) (b' := false) rfl (by cases mb <;> rfl) ?_
        refine WL.y (Yl.pickF rfl rfl) rfl ?_ -- t52
        refine WL.know (t := 52) (b' := false) rfl (by first | rfl | (simp; done) | (simp; omega)) ?_
        refine WL.y (Yl.move rfl) rfl ?_ -- t53
        refine WL.know (t := 53) (b' := false) rfl (by first | rfl | (simp; done) | (simp; omega)) ?_
        refine WL.on rfl rfl ?_
        refine WL.y (Yl.move rfl) rfl ?_ -- t54
        refine WL.on rfl rfl ?_
        refine WL.y (Yl.not rfl) rfl ?_ -- t55
        refine WL.on rfl rfl ?_
        refine WL.y (Yl.move rfl) rfl ?_ -- t56
        refine WL.both (t := 56) rfl (fun g56 => ?_) (fun g56 => ?_)
        · refine WL.on rfl rfl ?_
          refine WL.y (Yl.move rfl) rfl ?_ -- t57
          refine WL.on rfl rfl ?_
          refine WL.y (Yl.neq rfl rfl) rfl ?_ -- t58
          refine WL.know (t := 58) (b' := false) rfl (by rw [show mb = false by simpa using g56]; rfl) ?_
          refine WL.on rfl rfl ?_
          refine WL.y (Yl.pickT rfl rfl) rfl ?_ -- t59
          refine WL.know (t := 59) (b' := false) rfl (by first | rfl | (simp; done) | (simp; omega)) ?_
          refine WL.y (Yl.pickF rfl rfl) rfl ?_ -- t60
          refine WL.know (t := 60) (b' := false) rfl (by first | rfl | (simp; done) | (simp; omega)) ?_
          refine WL.nil ?_
          refine WC.condF rfl (by first | rfl | (simp; done) | (simp; omega)) ?_
          refine WC.skip ?_
          exact ⟨rfl, (), trivial, (by repeat (first | exact Sub.nil | refine Sub.cons rfl ?_)), _, (by repeat (first | exact TakeL.nil | (apply TakeL.cons; · repeat (first | exact Take1.head | apply Take1.tail))))⟩
        · refine WL.off rfl rfl rfl rfl ?_ -- t57
          refine WL.off rfl rfl rfl rfl ?_ -- t58
          refine WL.on rfl rfl ?_
          refine WL.y (Yl.pickF rfl rfl) rfl ?_ -- t59
          refine WL.know (t := 59) (b' := false) rfl (by first | rfl | (simp; done) | (simp; omega)) ?_
          refine WL.y (Yl.pickF rfl rfl) rfl ?_ -- t60
          refine WL.know (t := 60) (b' := false) rfl (by first | rfl | (simp; done) | (simp; omega)) ?_
          refine WL.nil ?_
          refine WC.condF rfl (by first | rfl | (simp; done) | (simp; omega)) ?_
          refine WC.skip ?_
          exact ⟨rfl, (), trivial, (by repeat (first | exact Sub.nil | refine Sub.cons rfl ?_)), _, (by repeat (first | exact TakeL.nil | (apply TakeL.cons; · repeat (first | exact Take1.head | apply Take1.tail))))⟩
      · rintro ⟨⟩ -
        have hfo : ((findF L' x.id).getD Rc.zero).id.length = 16 := by
          cases hf : findF L' x.id with
          | none => rfl
          | some y => exact (hwb2.bk y (List.mem_of_find?_eq_some hf)).ok.len
        have hf22 := Rc.cells_len hfo
        refine WC.seq ?_
        refine WC.region ?_
        refine WL.y (Yl.move rfl) rfl ?_ -- t62
        refine WL.y (Yl.field fo31_0 rfl) rfl ?_ -- t63
        refine WL.y (Yl.loadN ag28 rfl (by repeat (first | exact Take1.head | apply Take1.tail)) (leB (by rw [h22]; omega)) (Rc.cid hxo.len)) rfl ?_ -- t64
        refine WL.callRo (xs := [.tmp 62, .tmp 64]) (cap := []) (A := [blkR b 72 [.slice ao33 L'.length ca33], ownR (.slice ao33 L'.length ca33) 31 22 L'.length (vcs rcV L')]) rfl rfl en11 (by repeat (first | exact TakeL.nil | (apply TakeL.cons; · repeat (first | exact Take1.head | apply Take1.tail)))) (fun w hw => findM_any b ao33 ca33 L' hwb2.rok (by omega) x.id hxo.len hxo.id w hw.left.here) rfl ?_
        rintro ⟨⟩ -
        refine WL.y (Yl.move rfl) rfl ?_ -- t61
        refine WL.y (Yl.extract rfl rfl) rfl ?_ -- t66
        refine WL.y (Yl.extract rfl rfl) rfl ?_ -- t67
        refine WL.to (To.alloc (cs := Rc.zero.cells) zr31 rfl) rfl ?_ -- t12
        intro b12
        refine WL.sto (Sto.agg sz31 rfl rfl (by repeat (first | exact Take1.head | apply Take1.tail)) (Rc.ones _) hf22 (by rfl) (Rc.all (r := Rc.zero) rfl ((findF L' x.id).getD Rc.zero).cells hf22)) (fun _ h => nomatch h) ?_ -- st 2
        refine WL.y (Yl.assign rfl) rfl ?_ -- t13
        refine WL.nil ?_
        refine WC.seq ?_
        obtain ⟨fd, hfdq⟩ : ∃ z, (findF L' x.id).getD Rc.zero = z := ⟨_, rfl⟩
        obtain ⟨fs, hfs⟩ : ∃ z, (findF L' x.id).isSome = z := ⟨_, rfl⟩
        have hfd : mb = true → fs = true ∧ Go.Proofs.Ytmcdbjbkkejbbaa.Bk fd ∧ betF fd x ≤ 0 := fun h => by
          obtain ⟨y, h1, h2, h3⟩ := found_take hwb hxo (hmb.trans h)
          rw [← hnx] at h1
          rw [h1] at hfdq hfs
          have e1 : y = fd := hfdq
          subst e1
          exact ⟨hfs.symm, h2, h3⟩
        rw [hfdq, hfs]
        rw [hfdq] at hf22 hfo
        refine WC.drawAny (Hs := [blkR b6 31 x.cells, blkR b12 31 fd.cells, rdR (.slice al xs.length cl) 22 xs.length (vcs rcV xs)]) mixed (by kernel_rfl) ⟨_, (by repeat (first | exact TakeL.nil | (apply TakeL.cons; · repeat (first | exact Take1.head | apply Take1.tail))))⟩ ?_
        refine WD.take 0 rfl (by kernel_rfl) (by kernel_rfl) (by kernel_rfl) rfl rfl (Yl.move rfl) rfl ?_ -- t68
        refine WD.take 1 rfl (by kernel_rfl) (by kernel_rfl) (by kernel_rfl) rfl rfl (Yl.move rfl) rfl ?_ -- t69
        refine WD.both (t := 69) rfl (fun g69 => ?_) (fun g69 => ?_)
        · refine WD.takeOn 2 rfl (by kernel_rfl) (by kernel_rfl) (by kernel_rfl) rfl rfl rfl rfl (Yl.move rfl) rfl ?_ -- t70
          refine WD.takeOn 3 rfl (by kernel_rfl) (by kernel_rfl) (by kernel_rfl) rfl rfl rfl rfl (Yl.not rfl) rfl ?_ -- t71
          refine WD.takeOn 4 rfl (by kernel_rfl) (by kernel_rfl) (by kernel_rfl) rfl rfl rfl rfl (Yl.move rfl) rfl ?_ -- t72
          refine WD.know (t := 72) (b' := false) rfl (by rw [(hfd g69).1]; rfl) ?_
          refine WD.takeOn 5 rfl (by kernel_rfl) (by kernel_rfl) (by kernel_rfl) rfl rfl rfl rfl (Yl.loadN ag31 rfl (by repeat (first | exact Take1.head | apply Take1.tail)) (leB (by rw [hf22]; omega)) (Rc.call hfo)) rfl ?_ -- t73
          refine WD.takeOn 6 rfl (by kernel_rfl) (by kernel_rfl) (by kernel_rfl) rfl rfl rfl rfl (Yl.loadN ag31 rfl (by repeat (first | exact Take1.head | apply Take1.tail)) (leB (by rw [h22]; omega)) (Rc.call hxo.len)) rfl ?_ -- t74
          refine WD.takeOn 8 rfl (by kernel_rfl) (by kernel_rfl) (by kernel_rfl) rfl rfl rfl rfl (Yl.loadN ag31 rfl (by repeat (first | exact Take1.head | apply Take1.tail)) (leB (by rw [hf22]; omega)) (Rc.call hfo)) rfl ?_ -- t76
          refine WD.one 7 (by kernel_rfl) ?_
          refine WO.callC (xs := [.tmp 73, .tmp 74]) (cap := []) rfl (.on rfl rfl) rfl rfl en12 (by repeat (first | exact TakeL.nil | (apply TakeL.cons; · repeat (first | exact Take1.head | apply Take1.tail)))) (fun w hw => better_any fd x (hfd g69).2.1 ⟨hxo, hmb.trans g69⟩ w hw.left.here) rfl (fun _ => ⟨_, (by repeat (first | exact TakeL.nil | (apply TakeL.cons; · repeat (first | exact Take1.head | apply Take1.tail))))⟩) ?_ -- t75 hailer/merge.Better
          rintro ⟨⟩ -
          rw [better_keeps (hfd g69).2.2]
          refine WD.takeOn 9 rfl (by kernel_rfl) (by kernel_rfl) (by kernel_rfl) rfl rfl rfl rfl (Yl.neA (xs := fd.cells) (ys := fd.cells) flRec rfl rfl (hfd g69).2.1.ok.fits (hfd g69).2.1.ok.fits) rfl ?_
          refine WD.know (t := 77) (b' := false) rfl (by rw [Rc.eqV (hfd g69).2.1.ok (hfd g69).2.1.ok]; simp) ?_
          refine WD.takeOn 10 rfl (by kernel_rfl) (by kernel_rfl) (by kernel_rfl) rfl rfl rfl rfl (Yl.pickF rfl rfl) rfl ?_ -- t78
          refine WD.know (t := 78) (b' := false) rfl (by first | rfl | (simp; done) | (simp; omega)) ?_
          refine WD.take 11 rfl (by kernel_rfl) (by kernel_rfl) (by kernel_rfl) rfl rfl (Yl.pickT rfl rfl) rfl ?_ -- t79
          refine WD.know (t := 79) (b' := false) rfl (by first | rfl | (simp; done) | (simp; omega)) ?_
          refine WD.take 12 rfl (by kernel_rfl) (by kernel_rfl) (by kernel_rfl) rfl rfl (Yl.move rfl) rfl ?_ -- t80
          refine WD.know (t := 80) (b' := false) rfl (by first | rfl | (simp; done) | (simp; omega)) ?_
          refine WD.takeOn 13 rfl (by kernel_rfl) (by kernel_rfl) (by kernel_rfl) rfl rfl rfl rfl (Yl.move rfl) rfl ?_ -- t81
          refine WD.takeOn 14 rfl (by kernel_rfl) (by kernel_rfl) (by kernel_rfl) rfl rfl rfl rfl (Yl.gtr rfl rfl) rfl ?_ -- t82
          refine WD.takeOn 15 rfl (by kernel_rfl) (by kernel_rfl) (by kernel_rfl) rfl rfl rfl rfl (Yl.move rfl) rfl ?_ -- t83
          refine WD.both (t := 83) rfl (fun g83 => ?_) (fun g83 => ?_)
          · refine WD.takeOn 16 rfl (by kernel_rfl) (by kernel_rfl) (by kernel_rfl) rfl rfl rfl rfl (Yl.loadN ag31 rfl (by repeat (first | exact Take1.head | apply Take1.tail)) (leB (by rw [h22]; omega)) (Rc.call hxo.len)) rfl ?_ -- t84
            refine WD.one 17 (by kernel_rfl) ?_
            refine WO.callC (xs := [.tmp 84]) (cap := []) rfl (.on rfl rfl) rfl rfl en13 (by repeat (first | exact TakeL.nil | (apply TakeL.cons; · repeat (first | exact Take1.head | apply Take1.tail)))) (fun w hw => rmay_any x hxo w hw.left.here) rfl (fun _ => ⟨_, (by repeat (first | exact TakeL.nil | (apply TakeL.cons; · repeat (first | exact Take1.head | apply Take1.tail))))⟩) ?_ -- t85 hailer/hailerref11.May
            rintro ⟨⟩ -
            rw [hmb]
            refine WD.takeOn 18 rfl (by kernel_rfl) (by kernel_rfl) (by kernel_rfl) rfl rfl rfl rfl (Yl.pickT rfl rfl) rfl ?_ -- t86
            refine WD.takeOn 19 rfl (by kernel_rfl) (by kernel_rfl) (by kernel_rfl) rfl rfl rfl rfl (Yl.move rfl) rfl ?_ -- t87
            refine WD.know (t := 87) (b' := true) rfl (by exact g69) ?_
            refine WD.takeOn 20 rfl (by kernel_rfl) (by kernel_rfl) (by kernel_rfl) rfl rfl rfl rfl (Yl.move rfl) rfl ?_ -- t88
            refine WD.takeOn 21 rfl (by kernel_rfl) (by kernel_rfl) (by kernel_rfl) rfl rfl rfl rfl (Yl.move rfl) rfl ?_ -- t89
            have hk0 : 0 < k := by have := of_decide_eq_true g83; omega
            obtain ⟨xp, hxp⟩ : ∃ x, xs[k - 1]? = some x := ⟨_, List.getElem?_eq_getElem (by omega)⟩
            have hxpo := hx.get hxp
            refine WD.takeOn 22 rfl (by kernel_rfl) (by kernel_rfl) (by kernel_rfl) rfl rfl rfl rfl (Yl.sub rfl rfl (IntWalk.i64_in _ (by omega))) rfl ?_ -- t90
            refine WD.say (t := 90) (v' := .int .i64 ((k - 1 : Nat) : Int)) rfl (by (refine congrArg _ ?_; omega)) ?_
            refine WD.takeOn 23 rfl (by kernel_rfl) (by kernel_rfl) (by kernel_rfl) rfl rfl rfl rfl (Yl.index un22 sz31 rfl rfl (Reads.of (r := rdR (.slice al xs.length cl) 22 xs.length (vcs rcV xs)) RdOf.rd' (by repeat (first | exact Take1.head | apply Take1.tail))) rfl (by omega)) rfl ?_ -- t91
            refine WD.takeOn 24 rfl (by kernel_rfl) (by kernel_rfl) (by kernel_rfl) rfl rfl rfl rfl (Yl.loadV (j := k - 1) (u := xp) vtR hx rfl (Reads.of (r := rdR (.slice al xs.length cl) 22 xs.length (vcs rcV xs)) RdOf.rd' (by repeat (first | exact Take1.head | apply Take1.tail))) rfl hxp) rfl ?_
            refine WD.one 25 (by kernel_rfl) ?_
            refine WO.callC (xs := [.tmp 92]) (cap := []) rfl (.on rfl rfl) rfl rfl en13 (by repeat (first | exact TakeL.nil | (apply TakeL.cons; · repeat (first | exact Take1.head | apply Take1.tail)))) (fun w hw => rmay_any xp hxpo w hw.left.here) rfl (fun _ => ⟨_, (by repeat (first | exact TakeL.nil | (apply TakeL.cons; · repeat (first | exact Take1.head | apply Take1.tail))))⟩) ?_ -- t93 hailer/hailerref11.May
            rintro ⟨⟩ -
            refine WD.takeOn 26 rfl (by kernel_rfl) (by kernel_rfl) (by kernel_rfl) rfl rfl rfl rfl (Yl.pickT rfl rfl) rfl ?_ -- t94
            refine WD.takeOn 27 rfl (by kernel_rfl) (by kernel_rfl) (by kernel_rfl) rfl rfl rfl rfl (Yl.move rfl) rfl ?_ -- t95
            refine WD.both (t := 95) rfl (fun g95 => ?_) (fun g95 => ?_)
            · refine WD.takeOn 28 rfl (by kernel_rfl) (by kernel_rfl) (by kernel_rfl) rfl rfl rfl rfl (Yl.loadN ag31 rfl (by repeat (first | exact Take1.head | apply Take1.tail)) (leB (by rw [h22]; omega)) (Rc.call hxo.len)) rfl ?_ -- t96
              refine WD.takeOn 29 rfl (by kernel_rfl) (by kernel_rfl) (by kernel_rfl) rfl rfl rfl rfl (Yl.move rfl) rfl ?_ -- t97
              refine WD.takeOn 30 rfl (by kernel_rfl) (by kernel_rfl) (by kernel_rfl) rfl rfl rfl rfl (Yl.move rfl) rfl ?_ -- t98
              refine WD.takeOn 31 rfl (by kernel_rfl) (by kernel_rfl) (by kernel_rfl) rfl rfl rfl rfl (Yl.sub rfl rfl (IntWalk.i64_in _ (by omega))) rfl ?_ -- t99
              refine WD.say (t := 99) (v' := .int .i64 ((k - 1 : Nat) : Int)) rfl (by (refine congrArg _ ?_; omega)) ?_
              refine WD.takeOn 32 rfl (by kernel_rfl) (by kernel_rfl) (by kernel_rfl) rfl rfl rfl rfl (Yl.index un22 sz31 rfl rfl (Reads.of (r := rdR (.slice al xs.length cl) 22 xs.length (vcs rcV xs)) RdOf.rd' (by repeat (first | exact Take1.head | apply Take1.tail))) rfl (by omega)) rfl ?_ -- t100
              refine WD.takeOn 33 rfl (by kernel_rfl) (by kernel_rfl) (by kernel_rfl) rfl rfl rfl rfl (Yl.loadV (j := k - 1) (u := xp) vtR hx rfl (Reads.of (r := rdR (.slice al xs.length cl) 22 xs.length (vcs rcV xs)) RdOf.rd' (by repeat (first | exact Take1.head | apply Take1.tail))) rfl hxp) rfl ?_
              refine WD.takeOn 35 rfl (by kernel_rfl) (by kernel_rfl) (by kernel_rfl) rfl rfl rfl rfl (Yl.loadN ag31 rfl (by repeat (first | exact Take1.head | apply Take1.tail)) (leB (by rw [h22]; omega)) (Rc.call hxo.len)) rfl ?_ -- t103
              refine WD.takeOn 37 rfl (by kernel_rfl) (by kernel_rfl) (by kernel_rfl) rfl rfl rfl rfl (Yl.move rfl) rfl ?_ -- t105
              refine WD.takeOn 38 rfl (by kernel_rfl) (by kernel_rfl) (by kernel_rfl) rfl rfl rfl rfl (Yl.move rfl) rfl ?_ -- t106
              refine WD.takeOn 39 rfl (by kernel_rfl) (by kernel_rfl) (by kernel_rfl) rfl rfl rfl rfl (Yl.sub rfl rfl (IntWalk.i64_in _ (by omega))) rfl ?_ -- t107
              refine WD.say (t := 107) (v' := .int .i64 ((k - 1 : Nat) : Int)) rfl (by (refine congrArg _ ?_; omega)) ?_
              refine WD.takeOn 40 rfl (by kernel_rfl) (by kernel_rfl) (by kernel_rfl) rfl rfl rfl rfl (Yl.index un22 sz31 rfl rfl (Reads.of (r := rdR (.slice al xs.length cl) 22 xs.length (vcs rcV xs)) RdOf.rd' (by repeat (first | exact Take1.head | apply Take1.tail))) rfl (by omega)) rfl ?_ -- t108
              refine WD.takeOn 41 rfl (by kernel_rfl) (by kernel_rfl) (by kernel_rfl) rfl rfl rfl rfl (Yl.loadV (j := k - 1) (u := xp) vtR hx rfl (Reads.of (r := rdR (.slice al xs.length cl) 22 xs.length (vcs rcV xs)) RdOf.rd' (by repeat (first | exact Take1.head | apply Take1.tail))) rfl hxp) rfl ?_
              refine WD.takeOn 42 rfl (by kernel_rfl) (by kernel_rfl) (by kernel_rfl) rfl rfl rfl rfl (Yl.loadN ag31 rfl (by repeat (first | exact Take1.head | apply Take1.tail)) (leB (by rw [h22]; omega)) (Rc.call hxo.len)) rfl ?_ -- t110
              refine WD.one 34 (by kernel_rfl) ?_
              refine WO.callC (xs := [.tmp 96, .tmp 101]) (cap := []) rfl (.on rfl rfl) rfl rfl en12 (by repeat (first | exact TakeL.nil | (apply TakeL.cons; · repeat (first | exact Take1.head | apply Take1.tail)))) (fun w hw => better_any x xp ⟨hxo, hmb.trans g69⟩ ⟨hxpo, g95⟩ w hw.left.here) rfl (fun _ => ⟨_, (by repeat (first | exact TakeL.nil | (apply TakeL.cons; · repeat (first | exact Take1.head | apply Take1.tail))))⟩) ?_ -- t102 hailer/merge.Better
              rintro ⟨⟩ -
              refine WD.takeOn 36 rfl (by kernel_rfl) (by kernel_rfl) (by kernel_rfl) rfl rfl rfl rfl (Yl.eqA (xs := (betterF x xp).cells) (ys := x.cells) flRec rfl rfl (better_ok hxo hxpo).fits hxo.fits) rfl ?_
              refine WD.say (t := 104) (v' := .bool (!decide (0 < betF x xp))) rfl (by rw [Rc.eqV (better_ok hxo hxpo) hxo, better_same]) ?_
              refine WD.one 43 (by kernel_rfl) ?_
              refine WO.callC (xs := [.tmp 109, .tmp 110]) (cap := []) rfl (.on rfl rfl) rfl rfl en14 (by repeat (first | exact TakeL.nil | (apply TakeL.cons; · repeat (first | exact Take1.head | apply Take1.tail)))) (fun w hw => ahead_any xp x ⟨hxpo, g95⟩ ⟨hxo, hmb.trans g69⟩ w hw.left.here) rfl (fun _ => ⟨_, (by repeat (first | exact TakeL.nil | (apply TakeL.cons; · repeat (first | exact Take1.head | apply Take1.tail))))⟩) ?_ -- t111 hailer/hailerref36.Ahead
              rintro ⟨⟩ -
              refine WD.takeOn 44 rfl (by kernel_rfl) (by kernel_rfl) (by kernel_rfl) rfl rfl rfl rfl (Yl.not rfl) rfl ?_ -- t112
              refine WD.takeOn 45 rfl (by kernel_rfl) (by kernel_rfl) (by kernel_rfl) rfl rfl rfl rfl (Yl.bNe un4 rfl rfl) rfl ?_ -- t113
              refine WD.know (t := 113) (b' := false) rfl (by rw [show decide (betF xp x < 0) = decide (0 < betF x xp) from decide_eq_decide.2 (by have := bet_neg x xp; omega)]; simp) ?_
              refine WD.takeOn 46 rfl (by kernel_rfl) (by kernel_rfl) (by kernel_rfl) rfl rfl rfl rfl (Yl.pickT rfl rfl) rfl ?_ -- t114
              refine WD.know (t := 114) (b' := false) rfl (by first | rfl | (simp; done) | (simp; omega)) ?_
              refine WD.take 47 rfl (by kernel_rfl) (by kernel_rfl) (by kernel_rfl) rfl rfl (Yl.pickF rfl rfl) rfl ?_ -- t115
              refine WD.know (t := 115) (b' := false) rfl (by first | rfl | (simp; done) | (simp; omega)) ?_
              refine WD.done (by kernel_rfl) ?_
              refine WC.condF rfl (by first | rfl | (simp; done) | (simp; omega)) ?_
              refine WC.skip ?_
              refine WC.region ?_
              refine WL.y (Yl.add rfl rfl (IntWalk.i64_in _ (by omega))) rfl ?_ -- t116
              refine WL.y (Yl.move rfl) rfl ?_ -- t25
              refine WL.nil ?_
              exact ⟨rfl, (k + 1, (ao33, ca33), (ao39, ca39)), by dsimp only; omega, by dsimp only; omega, by dsimp only; rw [hL']; exact (by repeat (first | exact Sub.nil | refine Sub.cons rfl ?_)), _, by dsimp only; rw [hL']; exact (by repeat (first | exact TakeL.nil | (apply TakeL.cons; · repeat (first | exact Take1.head | apply Take1.tail))))⟩
            · refine WD.takeOff 28 rfl (by kernel_rfl) (by kernel_rfl) (by kernel_rfl) rfl rfl rfl rfl rfl rfl ?_ -- t96
              refine WD.takeOff 29 rfl (by kernel_rfl) (by kernel_rfl) (by kernel_rfl) rfl rfl rfl rfl rfl rfl ?_ -- t97
              refine WD.takeOff 30 rfl (by kernel_rfl) (by kernel_rfl) (by kernel_rfl) rfl rfl rfl rfl rfl rfl ?_ -- t98
              refine WD.takeOff 31 rfl (by kernel_rfl) (by kernel_rfl) (by kernel_rfl) rfl rfl rfl rfl rfl rfl ?_ -- t99
              refine WD.takeOff 32 rfl (by kernel_rfl) (by kernel_rfl) (by kernel_rfl) rfl rfl rfl rfl rfl rfl ?_ -- t100
              refine WD.takeOff 33 rfl (by kernel_rfl) (by kernel_rfl) (by kernel_rfl) rfl rfl rfl rfl rfl rfl ?_ -- t101
              refine WD.takeOff 35 rfl (by kernel_rfl) (by kernel_rfl) (by kernel_rfl) rfl rfl rfl rfl rfl rfl ?_ -- t103
              refine WD.takeOff 37 rfl (by kernel_rfl) (by kernel_rfl) (by kernel_rfl) rfl rfl rfl rfl rfl rfl ?_ -- t105
              refine WD.takeOff 38 rfl (by kernel_rfl) (by kernel_rfl) (by kernel_rfl) rfl rfl rfl rfl rfl rfl ?_ -- t106
              refine WD.takeOff 39 rfl (by kernel_rfl) (by kernel_rfl) (by kernel_rfl) rfl rfl rfl rfl rfl rfl ?_ -- t107
              refine WD.takeOff 40 rfl (by kernel_rfl) (by kernel_rfl) (by kernel_rfl) rfl rfl rfl rfl rfl rfl ?_ -- t108
              refine WD.takeOff 41 rfl (by kernel_rfl) (by kernel_rfl) (by kernel_rfl) rfl rfl rfl rfl rfl rfl ?_ -- t109
              refine WD.takeOff 42 rfl (by kernel_rfl) (by kernel_rfl) (by kernel_rfl) rfl rfl rfl rfl rfl rfl ?_ -- t110
              refine WD.one 34 (by kernel_rfl) ?_
              refine WO.off rfl rfl rfl rfl rfl rfl rfl ?_ -- t102
              refine WD.takeOff 36 rfl (by kernel_rfl) (by kernel_rfl) (by kernel_rfl) rfl rfl rfl rfl rfl rfl ?_ -- t104
              refine WD.one 43 (by kernel_rfl) ?_
              refine WO.off rfl rfl rfl rfl rfl rfl rfl ?_ -- t111
              refine WD.takeOff 44 rfl (by kernel_rfl) (by kernel_rfl) (by kernel_rfl) rfl rfl rfl rfl rfl rfl ?_ -- t112
              refine WD.takeOff 45 rfl (by kernel_rfl) (by kernel_rfl) (by kernel_rfl) rfl rfl rfl rfl rfl rfl ?_ -- t113
              refine WD.takeOn 46 rfl (by kernel_rfl) (by kernel_rfl) (by kernel_rfl) rfl rfl rfl rfl (Yl.pickF rfl rfl) rfl ?_ -- t114
              refine WD.know (t := 114) (b' := false) rfl (by first | rfl | (simp; done) | (simp; omega)) ?_
              refine WD.take 47 rfl (by kernel_rfl) (by kernel_rfl) (by kernel_rfl) rfl rfl (Yl.pickF rfl rfl) rfl ?_ -- t115
              refine WD.know (t := 115) (b' := false) rfl (by first | rfl | (simp; done) | (simp; omega)) ?_
              refine WD.done (by kernel_rfl) ?_
              refine WC.condF rfl (by first | rfl | (simp; done) | (simp; omega)) ?_
              refine WC.skip ?_
              refine WC.region ?_
              refine WL.y (Yl.add rfl rfl (IntWalk.i64_in _ (by omega))) rfl ?_ -- t116
              refine WL.y (Yl.move rfl) rfl ?_ -- t25
              refine WL.nil ?_
              exact ⟨rfl, (k + 1, (ao33, ca33), (ao39, ca39)), by dsimp only; omega, by dsimp only; omega, by dsimp only; rw [hL']; exact (by repeat (first | exact Sub.nil | refine Sub.cons rfl ?_)), _, by dsimp only; rw [hL']; exact (by repeat (first | exact TakeL.nil | (apply TakeL.cons; · repeat (first | exact Take1.head | apply Take1.tail))))⟩
          · refine WD.takeOff 16 rfl (by kernel_rfl) (by kernel_rfl) (by kernel_rfl) rfl rfl rfl rfl rfl rfl ?_ -- t84
            refine WD.one 17 (by kernel_rfl) ?_
            refine WO.off rfl rfl rfl rfl rfl rfl rfl ?_ -- t85
            refine WD.takeOn 18 rfl (by kernel_rfl) (by kernel_rfl) (by kernel_rfl) rfl rfl rfl rfl (Yl.pickF rfl rfl) rfl ?_ -- t86
            refine WD.takeOn 19 rfl (by kernel_rfl) (by kernel_rfl) (by kernel_rfl) rfl rfl rfl rfl (Yl.move rfl) rfl ?_ -- t87
            refine WD.know (t := 87) (b' := false) rfl (by first | rfl | (simp; done) | (simp; omega)) ?_
            refine WD.takeOff 20 rfl (by kernel_rfl) (by kernel_rfl) (by kernel_rfl) rfl rfl rfl rfl rfl rfl ?_ -- t88
            refine WD.takeOff 21 rfl (by kernel_rfl) (by kernel_rfl) (by kernel_rfl) rfl rfl rfl rfl rfl rfl ?_ -- t89
            refine WD.takeOff 22 rfl (by kernel_rfl) (by kernel_rfl) (by kernel_rfl) rfl rfl rfl rfl rfl rfl ?_ -- t90
            refine WD.takeOff 23 rfl (by kernel_rfl) (by kernel_rfl) (by kernel_rfl) rfl rfl rfl rfl rfl rfl ?_ -- t91
            refine WD.takeOff 24 rfl (by kernel_rfl) (by kernel_rfl) (by kernel_rfl) rfl rfl rfl rfl rfl rfl ?_ -- t92
            refine WD.one 25 (by kernel_rfl) ?_
            refine WO.off rfl rfl rfl rfl rfl rfl rfl ?_ -- t93
            refine WD.takeOn 26 rfl (by kernel_rfl) (by kernel_rfl) (by kernel_rfl) rfl rfl rfl rfl (Yl.pickF rfl rfl) rfl ?_ -- t94
            refine WD.takeOn 27 rfl (by kernel_rfl) (by kernel_rfl) (by kernel_rfl) rfl rfl rfl rfl (Yl.move rfl) rfl ?_ -- t95
            refine WD.know (t := 95) (b' := false) rfl (by first | rfl | (simp; done) | (simp; omega)) ?_
            refine WD.takeOff 28 rfl (by kernel_rfl) (by kernel_rfl) (by kernel_rfl) rfl rfl rfl rfl rfl rfl ?_ -- t96
            refine WD.takeOff 29 rfl (by kernel_rfl) (by kernel_rfl) (by kernel_rfl) rfl rfl rfl rfl rfl rfl ?_ -- t97
            refine WD.takeOff 30 rfl (by kernel_rfl) (by kernel_rfl) (by kernel_rfl) rfl rfl rfl rfl rfl rfl ?_ -- t98
            refine WD.takeOff 31 rfl (by kernel_rfl) (by kernel_rfl) (by kernel_rfl) rfl rfl rfl rfl rfl rfl ?_ -- t99
            refine WD.takeOff 32 rfl (by kernel_rfl) (by kernel_rfl) (by kernel_rfl) rfl rfl rfl rfl rfl rfl ?_ -- t100
            refine WD.takeOff 33 rfl (by kernel_rfl) (by kernel_rfl) (by kernel_rfl) rfl rfl rfl rfl rfl rfl ?_ -- t101
            refine WD.takeOff 35 rfl (by kernel_rfl) (by kernel_rfl) (by kernel_rfl) rfl rfl rfl rfl rfl rfl ?_ -- t103
            refine WD.takeOff 37 rfl (by kernel_rfl) (by kernel_rfl) (by kernel_rfl) rfl rfl rfl rfl rfl rfl ?_ -- t105
            refine WD.takeOff 38 rfl (by kernel_rfl) (by kernel_rfl) (by kernel_rfl) rfl rfl rfl rfl rfl rfl ?_ -- t106
            refine WD.takeOff 39 rfl (by kernel_rfl) (by kernel_rfl) (by kernel_rfl) rfl rfl rfl rfl rfl rfl ?_ -- t107
            refine WD.takeOff 40 rfl (by kernel_rfl) (by kernel_rfl) (by kernel_rfl) rfl rfl rfl rfl rfl rfl ?_ -- t108
            refine WD.takeOff 41 rfl (by kernel_rfl) (by kernel_rfl) (by kernel_rfl) rfl rfl rfl rfl rfl rfl ?_ -- t109
            refine WD.takeOff 42 rfl (by kernel_rfl) (by kernel_rfl) (by kernel_rfl) rfl rfl rfl rfl rfl rfl ?_ -- t110
            refine WD.one 34 (by kernel_rfl) ?_
            refine WO.off rfl rfl rfl rfl rfl rfl rfl ?_ -- t102
            refine WD.takeOff 36 rfl (by kernel_rfl) (by kernel_rfl) (by kernel_rfl) rfl rfl rfl rfl rfl rfl ?_ -- t104
            refine WD.one 43 (by kernel_rfl) ?_
            refine WO.off rfl rfl rfl rfl rfl rfl rfl ?_ -- t111
            refine WD.takeOff 44 rfl (by kernel_rfl) (by kernel_rfl) (by kernel_rfl) rfl rfl rfl rfl rfl rfl ?_ -- t112
            refine WD.takeOff 45 rfl (by kernel_rfl) (by kernel_rfl) (by kernel_rfl) rfl rfl rfl rfl rfl rfl ?_ -- t113
            refine WD.takeOn 46 rfl (by kernel_rfl) (by kernel_rfl) (by kernel_rfl) rfl rfl rfl rfl (Yl.pickF rfl rfl) rfl ?_ -- t114
            refine WD.know (t := 114) (b' := false) rfl (by first | rfl | (simp; done) | (simp; omega)) ?_
            refine WD.take 47 rfl (by kernel_rfl) (by kernel_rfl) (by kernel_rfl) rfl rfl (Yl.pickF rfl rfl) rfl ?_ -- t115
            refine WD.know (t := 115) (b' := false) rfl (by first | rfl | (simp; done) | (simp; omega)) ?_
            refine WD.done (by kernel_rfl) ?_
            refine WC.condF rfl (by first | rfl | (simp; done) | (simp; omega)) ?_
            refine WC.skip ?_
            refine WC.region ?_
            refine WL.y (Yl.add rfl rfl (IntWalk.i64_in _ (by omega))) rfl ?_ -- t116
            refine WL.y (Yl.move rfl) rfl ?_ -- t25
            refine WL.nil ?_
            exact ⟨rfl, (k + 1, (ao33, ca33), (ao39, ca39)), by dsimp only; omega, by dsimp only; omega, by dsimp only; rw [hL']; exact (by repeat (first | exact Sub.nil | refine Sub.cons rfl ?_)), _, by dsimp only; rw [hL']; exact (by repeat (first | exact TakeL.nil | (apply TakeL.cons; · repeat (first | exact Take1.head | apply Take1.tail))))⟩
        · refine WD.takeOff 2 rfl (by kernel_rfl) (by kernel_rfl) (by kernel_rfl) rfl rfl rfl rfl rfl rfl ?_ -- t70
          refine WD.takeOff 3 rfl (by kernel_rfl) (by kernel_rfl) (by kernel_rfl) rfl rfl rfl rfl rfl rfl ?_ -- t71
          refine WD.takeOff 4 rfl (by kernel_rfl) (by kernel_rfl) (by kernel_rfl) rfl rfl rfl rfl rfl rfl ?_ -- t72
          refine WD.takeOffU 5 rfl (by kernel_rfl) (by kernel_rfl) (by kernel_rfl) rfl rfl rfl rfl rfl ?_ -- t73
          refine WD.takeOffU 6 rfl (by kernel_rfl) (by kernel_rfl) (by kernel_rfl) rfl rfl rfl rfl rfl ?_ -- t74
          refine WD.takeOffU 8 rfl (by kernel_rfl) (by kernel_rfl) (by kernel_rfl) rfl rfl rfl rfl rfl ?_ -- t76
          refine WD.one 7 (by kernel_rfl) ?_
          refine WO.offU rfl rfl rfl rfl rfl rfl ?_ -- t75
          refine WD.takeOffU 9 rfl (by kernel_rfl) (by kernel_rfl) (by kernel_rfl) rfl rfl rfl rfl rfl ?_ -- t77
          refine WD.takeOff 10 rfl (by kernel_rfl) (by kernel_rfl) (by kernel_rfl) rfl rfl rfl rfl rfl rfl ?_ -- t78
          refine WD.take 11 rfl (by kernel_rfl) (by kernel_rfl) (by kernel_rfl) rfl rfl (Yl.pickF rfl rfl) rfl ?_ -- t79
          refine WD.know (t := 79) (b' := false) rfl (by first | rfl | (simp; done) | (simp; omega)) ?_
          refine WD.take 12 rfl (by kernel_rfl) (by kernel_rfl) (by kernel_rfl) rfl rfl (Yl.move rfl) rfl ?_ -- t80
          refine WD.know (t := 80) (b' := false) rfl (by first | rfl | (simp; done) | (simp; omega)) ?_
          refine WD.takeOn 13 rfl (by kernel_rfl) (by kernel_rfl) (by kernel_rfl) rfl rfl rfl rfl (Yl.move rfl) rfl ?_ -- t81
          refine WD.takeOn 14 rfl (by kernel_rfl) (by kernel_rfl) (by kernel_rfl) rfl rfl rfl rfl (Yl.gtr rfl rfl) rfl ?_ -- t82
          refine WD.takeOn 15 rfl (by kernel_rfl) (by kernel_rfl) (by kernel_rfl) rfl rfl rfl rfl (Yl.move rfl) rfl ?_ -- t83
          refine WD.both (t := 83) rfl (fun g83 => ?_) (fun g83 => ?_)
          · refine WD.takeOn 16 rfl (by kernel_rfl) (by kernel_rfl) (by kernel_rfl) rfl rfl rfl rfl (Yl.loadN ag31 rfl (by repeat (first | exact Take1.head | apply Take1.tail)) (leB (by rw [h22]; omega)) (Rc.call hxo.len)) rfl ?_ -- t84
            refine WD.one 17 (by kernel_rfl) ?_
            refine WO.callC (xs := [.tmp 84]) (cap := []) rfl (.on rfl rfl) rfl rfl en13 (by repeat (first | exact TakeL.nil | (apply TakeL.cons; · repeat (first | exact Take1.head | apply Take1.tail)))) (fun w hw => rmay_any x hxo w hw.left.here) rfl (fun _ => ⟨_, (by repeat (first | exact TakeL.nil | (apply TakeL.cons; · repeat (first | exact Take1.head | apply Take1.tail))))⟩) ?_ -- t85 hailer/hailerref11.May
            rintro ⟨⟩ -
            rw [hmb]
            refine WD.takeOn 18 rfl (by kernel_rfl) (by kernel_rfl) (by kernel_rfl) rfl rfl rfl rfl (Yl.pickT rfl rfl) rfl ?_ -- t86
            refine WD.takeOn 19 rfl (by kernel_rfl) (by kernel_rfl) (by kernel_rfl) rfl rfl rfl rfl (Yl.move rfl) rfl ?_ -- t87
            refine WD.know (t := 87) (b' := false) rfl (by exact g69) ?_
            refine WD.takeOff 20 rfl (by kernel_rfl) (by kernel_rfl) (by kernel_rfl) rfl rfl rfl rfl rfl rfl ?_ -- t88
            refine WD.takeOff 21 rfl (by kernel_rfl) (by kernel_rfl) (by kernel_rfl) rfl rfl rfl rfl rfl rfl ?_ -- t89
            refine WD.takeOff 22 rfl (by kernel_rfl) (by kernel_rfl) (by kernel_rfl) rfl rfl rfl rfl rfl rfl ?_ -- t90
            refine WD.takeOff 23 rfl (by kernel_rfl) (by kernel_rfl) (by kernel_rfl) rfl rfl rfl rfl rfl rfl ?_ -- t91
            refine WD.takeOff 24 rfl (by kernel_rfl) (by kernel_rfl) (by kernel_rfl) rfl rfl rfl rfl rfl rfl ?_ -- t92
            refine WD.one 25 (by kernel_rfl) ?_
            refine WO.off rfl rfl rfl rfl rfl rfl rfl ?_ -- t93
            refine WD.takeOn 26 rfl (by kernel_rfl) (by kernel_rfl) (by kernel_rfl) rfl rfl rfl rfl (Yl.pickF rfl rfl) rfl ?_ -- t94
            refine WD.takeOn 27 rfl (by kernel_rfl) (by kernel_rfl) (by kernel_rfl) rfl rfl rfl rfl (Yl.move rfl) rfl ?_ -- t95
            refine WD.know (t := 95) (b' := false) rfl (by first | rfl | (simp; done) | (simp; omega)) ?_
            refine WD.takeOff 28 rfl (by kernel_rfl) (by kernel_rfl) (by kernel_rfl) rfl rfl rfl rfl rfl rfl ?_ -- t96
            refine WD.takeOff 29 rfl (by kernel_rfl) (by kernel_rfl) (by kernel_rfl) rfl rfl rfl rfl rfl rfl ?_ -- t97
            refine WD.takeOff 30 rfl (by kernel_rfl) (by kernel_rfl) (by kernel_rfl) rfl rfl rfl rfl rfl rfl ?_ -- t98
            refine WD.takeOff 31 rfl (by kernel_rfl) (by kernel_rfl) (by kernel_rfl) rfl rfl rfl rfl rfl rfl ?_ -- t99
            refine WD.takeOff 32 rfl (by kernel_rfl) (by kernel_rfl) (by kernel_rfl) rfl rfl rfl rfl rfl rfl ?_ -- t100
            refine WD.takeOff 33 rfl (by kernel_rfl) (by kernel_rfl) (by kernel_rfl) rfl rfl rfl rfl rfl rfl ?_ -- t101
            refine WD.takeOff 35 rfl (by kernel_rfl) (by kernel_rfl) (by kernel_rfl) rfl rfl rfl rfl rfl rfl ?_ -- t103
            refine WD.takeOff 37 rfl (by kernel_rfl) (by kernel_rfl) (by kernel_rfl) rfl rfl rfl rfl rfl rfl ?_ -- t105
            refine WD.takeOff 38 rfl (by kernel_rfl) (by kernel_rfl) (by kernel_rfl) rfl rfl rfl rfl rfl rfl ?_ -- t106
            refine WD.takeOff 39 rfl (by kernel_rfl) (by kernel_rfl) (by kernel_rfl) rfl rfl rfl rfl rfl rfl ?_ -- t107
            refine WD.takeOff 40 rfl (by kernel_rfl) (by kernel_rfl) (by kernel_rfl) rfl rfl rfl rfl rfl rfl ?_ -- t108
            refine WD.takeOff 41 rfl (by kernel_rfl) (by kernel_rfl) (by kernel_rfl) rfl rfl rfl rfl rfl rfl ?_ -- t109
            refine WD.takeOff 42 rfl (by kernel_rfl) (by kernel_rfl) (by kernel_rfl) rfl rfl rfl rfl rfl rfl ?_ -- t110
            refine WD.one 34 (by kernel_rfl) ?_
            refine WO.off rfl rfl rfl rfl rfl rfl rfl ?_ -- t102
            refine WD.takeOff 36 rfl (by kernel_rfl) (by kernel_rfl) (by kernel_rfl) rfl rfl rfl rfl rfl rfl ?_ -- t104
            refine WD.one 43 (by kernel_rfl) ?_
            refine WO.off rfl rfl rfl rfl rfl rfl rfl ?_ -- t111
            refine WD.takeOff 44 rfl (by kernel_rfl) (by kernel_rfl) (by kernel_rfl) rfl rfl rfl rfl rfl rfl ?_ -- t112
            refine WD.takeOff 45 rfl (by kernel_rfl) (by kernel_rfl) (by kernel_rfl) rfl rfl rfl rfl rfl rfl ?_ -- t113
            refine WD.takeOn 46 rfl (by kernel_rfl) (by kernel_rfl) (by kernel_rfl) rfl rfl rfl rfl (Yl.pickF rfl rfl) rfl ?_ -- t114
            refine WD.know (t := 114) (b' := false) rfl (by first | rfl | (simp; done) | (simp; omega)) ?_
            refine WD.take 47 rfl (by kernel_rfl) (by kernel_rfl) (by kernel_rfl) rfl rfl (Yl.pickF rfl rfl) rfl ?_ -- t115
            refine WD.know (t := 115) (b' := false) rfl (by first | rfl | (simp; done) | (simp; omega)) ?_
            refine WD.done (by kernel_rfl) ?_
            refine WC.condF rfl (by first | rfl | (simp; done) | (simp; omega)) ?_
            refine WC.skip ?_
            refine WC.region ?_
            refine WL.y (Yl.add rfl rfl (IntWalk.i64_in _ (by omega))) rfl ?_ -- t116
            refine WL.y (Yl.move rfl) rfl ?_ -- t25
            refine WL.nil ?_
            exact ⟨rfl, (k + 1, (ao33, ca33), (ao39, ca39)), by dsimp only; omega, by dsimp only; omega, by dsimp only; rw [hL']; exact (by repeat (first | exact Sub.nil | refine Sub.cons rfl ?_)), _, by dsimp only; rw [hL']; exact (by repeat (first | exact TakeL.nil | (apply TakeL.cons; · repeat (first | exact Take1.head | apply Take1.tail))))⟩
          · refine WD.takeOff 16 rfl (by kernel_rfl) (by kernel_rfl) (by kernel_rfl) rfl rfl rfl rfl rfl rfl ?_ -- t84
            refine WD.one 17 (by kernel_rfl) ?_
            refine WO.off rfl rfl rfl rfl rfl rfl rfl ?_ -- t85
            refine WD.takeOn 18 rfl (by kernel_rfl) (by kernel_rfl) (by kernel_rfl) rfl rfl rfl rfl (Yl.pickF rfl rfl) rfl ?_ -- t86
            refine WD.takeOn 19 rfl (by kernel_rfl) (by kernel_rfl) (by kernel_rfl) rfl rfl rfl rfl (Yl.move rfl) rfl ?_ -- t87
            refine WD.know (t := 87) (b' := false) rfl (by first | rfl | (simp; done) | (simp; omega)) ?_
            refine WD.takeOff 20 rfl (by kernel_rfl) (by kernel_rfl) (by kernel_rfl) rfl rfl rfl rfl rfl rfl ?_ -- t88
            refine WD.takeOff 21 rfl (by kernel_rfl) (by kernel_rfl) (by kernel_rfl) rfl rfl rfl rfl rfl rfl ?_ -- t89
            refine WD.takeOff 22 rfl (by kernel_rfl) (by kernel_rfl) (by kernel_rfl) rfl rfl rfl rfl rfl rfl ?_ -- t90
            refine WD.takeOff 23 rfl (by kernel_rfl) (by kernel_rfl) (by kernel_rfl) rfl rfl rfl rfl rfl rfl ?_ -- t91
            refine WD.takeOff 24 rfl (by kernel_rfl) (by kernel_rfl) (by kernel_rfl) rfl rfl rfl rfl rfl rfl ?_ -- t92
            refine WD.one 25 (by kernel_rfl) ?_
            refine WO.off rfl rfl rfl rfl rfl rfl rfl ?_ -- t93
            refine WD.takeOn 26 rfl (by kernel_rfl) (by kernel_rfl) (by kernel_rfl) rfl rfl rfl rfl (Yl.pickF rfl rfl) rfl ?_ -- t94
            refine WD.takeOn 27 rfl (by kernel_rfl) (by kernel_rfl) (by kernel_rfl) rfl rfl rfl rfl (Yl.move rfl) rfl ?_ -- t95
            refine WD.know (t := 95) (b' := false) rfl (by first | rfl | (simp; done) | (simp; omega)) ?_
            refine WD.takeOff 28 rfl (by kernel_rfl) (by kernel_rfl) (by kernel_rfl) rfl rfl rfl rfl rfl rfl ?_ -- t96
            refine WD.takeOff 29 rfl (by kernel_rfl) (by kernel_rfl) (by kernel_rfl) rfl rfl rfl rfl rfl rfl ?_ -- t97
            refine WD.takeOff 30 rfl (by kernel_rfl) (by kernel_rfl) (by kernel_rfl) rfl rfl rfl rfl rfl rfl ?_ -- t98
            refine WD.takeOff 31 rfl (by kernel_rfl) (by kernel_rfl) (by kernel_rfl) rfl rfl rfl rfl rfl rfl ?_ -- t99
            refine WD.takeOff 32 rfl (by kernel_rfl) (by kernel_rfl) (by kernel_rfl) rfl rfl rfl rfl rfl rfl ?_ -- t100
            refine WD.takeOff 33 rfl (by kernel_rfl) (by kernel_rfl) (by kernel_rfl) rfl rfl rfl rfl rfl rfl ?_ -- t101
            refine WD.takeOff 35 rfl (by kernel_rfl) (by kernel_rfl) (by kernel_rfl) rfl rfl rfl rfl rfl rfl ?_ -- t103
            refine WD.takeOff 37 rfl (by kernel_rfl) (by kernel_rfl) (by kernel_rfl) rfl rfl rfl rfl rfl rfl ?_ -- t105
            refine WD.takeOff 38 rfl (by kernel_rfl) (by kernel_rfl) (by kernel_rfl) rfl rfl rfl rfl rfl rfl ?_ -- t106
            refine WD.takeOff 39 rfl (by kernel_rfl) (by kernel_rfl) (by kernel_rfl) rfl rfl rfl rfl rfl rfl ?_ -- t107
            refine WD.takeOff 40 rfl (by kernel_rfl) (by kernel_rfl) (by kernel_rfl) rfl rfl rfl rfl rfl rfl ?_ -- t108
            refine WD.takeOff 41 rfl (by kernel_rfl) (by kernel_rfl) (by kernel_rfl) rfl rfl rfl rfl rfl rfl ?_ -- t109
            refine WD.takeOff 42 rfl (by kernel_rfl) (by kernel_rfl) (by kernel_rfl) rfl rfl rfl rfl rfl rfl ?_ -- t110
            refine WD.one 34 (by kernel_rfl) ?_
            refine WO.off rfl rfl rfl rfl rfl rfl rfl ?_ -- t102
            refine WD.takeOff 36 rfl (by kernel_rfl) (by kernel_rfl) (by kernel_rfl) rfl rfl rfl rfl rfl rfl ?_ -- t104
            refine WD.one 43 (by kernel_rfl) ?_
            refine WO.off rfl rfl rfl rfl rfl rfl rfl ?_ -- t111
            refine WD.takeOff 44 rfl (by kernel_rfl) (by kernel_rfl) (by kernel_rfl) rfl rfl rfl rfl rfl rfl ?_ -- t112
            refine WD.takeOff 45 rfl (by kernel_rfl) (by kernel_rfl) (by kernel_rfl) rfl rfl rfl rfl rfl rfl ?_ -- t113
            refine WD.takeOn 46 rfl (by kernel_rfl) (by kernel_rfl) (by kernel_rfl) rfl rfl rfl rfl (Yl.pickF rfl rfl) rfl ?_ -- t114
            refine WD.know (t := 114) (b' := false) rfl (by first | rfl | (simp; done) | (simp; omega)) ?_
            refine WD.take 47 rfl (by kernel_rfl) (by kernel_rfl) (by kernel_rfl) rfl rfl (Yl.pickF rfl rfl) rfl ?_ -- t115
            refine WD.know (t := 115) (b' := false) rfl (by first | rfl | (simp; done) | (simp; omega)) ?_
            refine WD.done (by kernel_rfl) ?_
            refine WC.condF rfl (by first | rfl | (simp; done) | (simp; omega)) ?_
            refine WC.skip ?_
            refine WC.region ?_
            refine WL.y (Yl.add rfl rfl (IntWalk.i64_in _ (by omega))) rfl ?_ -- t116
            refine WL.y (Yl.move rfl) rfl ?_ -- t25
            refine WL.nil ?_
            exact ⟨rfl, (k + 1, (ao33, ca33), (ao39, ca39)), by dsimp only; omega, by dsimp only; omega, by dsimp only; rw [hL']; exact (by repeat (first | exact Sub.nil | refine Sub.cons rfl ?_)), _, by dsimp only; rw [hL']; exact (by repeat (first | exact TakeL.nil | (apply TakeL.cons; · repeat (first | exact Take1.head | apply Take1.tail))))⟩
    · refine WC.exit ?_
      refine WC.seq ?_
      have hkl : k = xs.length := by omega
      subst hkl
      obtain ⟨L, hL⟩ : ∃ l, wN xs xs.length = l := ⟨_, rfl⟩
      rw [hL] at hwb hwl ⊢
      have hLo : ∀ q ∈ L, Go.Proofs.Ytmcdbjbkkejbbaa.Bk q := hwb.bk
      have hLg : ROk L := hwb.rok
      refine WC.view (fun w h => OK.bunO2 (r := blkR b 72 [.slice aoB L.length caB]) (s := ownR (.slice aoB L.length caB) 31 22 L.length (vcs rcV L)) h (by repeat (first | exact TakeL.nil | (apply TakeL.cons; · repeat (first | exact Take1.head | apply Take1.tail))))) ?_
      obtain ⟨A, hA⟩ : ∃ A : Bt, A = ⟨b, aoB, caB, L⟩ := ⟨_, rfl⟩
      rw [show [blkR b 72 [.slice aoB L.length caB], ownR (.slice aoB L.length caB) 31 22 L.length (vcs rcV L)] = btR (some A) by rw [hA]; rfl]
      have lA : A.l = L := by rw [hA]
      have bA : A.b = b := by rw [hA]
      rw [← bA]
      have hd8 : (ints .u8 (digF L)).length = 8 := by rw [ints_length, digF_len]
      refine WC.region ?_
      refine WL.y (Yl.move rfl) rfl ?_ -- t117
      refine WL.view (fun w h => h.dup (r := bunR (btR (some A))) (by repeat (first | exact Take1.head | apply Take1.tail)) (fun _ h => h)) ?_
      refine WL.callC (xs := [.tmp 117]) (cap := []) rfl rfl en15 (by repeat (first | exact TakeL.nil | (apply TakeL.cons; · repeat (first | exact Take1.head | apply Take1.tail)))) (fun w hw => digestP_any A (by rw [lA]; exact hLo) (by rw [lA]; omega) w hw.left.here) rfl ?_ -- t118 (*hailer/merge.Book).Digest
      rintro ⟨⟩ -
      rw [lA]
      dsimp only [List.cons_append, List.nil_append]
      refine WL.to (To.alloc (cs := ints .u8 (List.replicate 8 0)) zr42 rfl) rfl ?_ -- t14
      intro b14
      refine WL.sto (Sto.agg sz42 rfl rfl (by repeat (first | exact Take1.head | apply Take1.tail)) (ints_one _ _) hd8 (by rfl) (putAll rfl)) (fun _ h => nomatch h) ?_ -- st 3
      refine WL.nil ?_
      refine WC.seq ?_
      refine WC.seq ?_
      refine WC.drawAny (Hs := [blkR b14 42 (ints .u8 (digF L))]) mixed (by kernel_rfl) ⟨_, (by repeat (first | exact TakeL.nil | (apply TakeL.cons; · repeat (first | exact Take1.head | apply Take1.tail))))⟩ ?_
      refine WD.take 0 rfl (by kernel_rfl) (by kernel_rfl) (by kernel_rfl) rfl rfl (Yl.move rfl) rfl ?_ -- t119
      refine WD.take 3 rfl (by kernel_rfl) (by kernel_rfl) (by kernel_rfl) rfl rfl (Yl.move rfl) rfl ?_ -- t122
      refine WD.one 1 (by kernel_rfl) ?_
      refine WO.view (fun w h => h.dup (r := bunR (btR (some A))) (by repeat (first | exact Take1.head | apply Take1.tail)) (fun _ h => h)) ?_
      refine WO.callC (xs := [.tmp 119]) (cap := []) rfl .no rfl rfl en18 (by repeat (first | exact TakeL.nil | (apply TakeL.cons; · repeat (first | exact Take1.head | apply Take1.tail)))) (fun w hw => allP_any (some A) (by dsimp only [btL]; rw [lA]; exact hLg) (by dsimp only [btL]; rw [lA]; omega) w hw.left.here) rfl (fun _ => ⟨_, (by repeat (first | exact TakeL.nil | (apply TakeL.cons; · repeat (first | exact Take1.head | apply Take1.tail))))⟩) ?_ -- t120 (*hailer/merge.Book).All
      rintro ⟨y120, own120⟩ -
      dsimp only [btL, List.cons_append, List.nil_append]
      rw [lA]
      refine WD.one 2 (by kernel_rfl) ?_
      refine WO.callC (xs := [.tmp 120]) (cap := []) rfl .no rfl rfl en17 (by repeat (first | exact TakeL.nil | (apply TakeL.cons; · repeat (first | exact Take1.head | apply Take1.tail)))) (fun w hw => col_any 54 [.pointer (some ⟨y120, 0, none⟩)] own120 L hLg (by omega) en54 w hw.left.here) rfl (fun _ => ⟨_, (by repeat (first | exact TakeL.nil | (apply TakeL.cons; · repeat (first | exact Take1.head | apply Take1.tail))))⟩) ?_ -- t121 slices.Collect[hailer/api.Record]
      rintro ⟨a121, c121⟩ -
      dsimp only [List.cons_append, List.nil_append]
      refine WD.one 4 (by kernel_rfl) ?_
      refine WO.callC (xs := [.tmp 121, .tmp 122]) (cap := []) rfl .no rfl rfl en16 (by repeat (first | exact TakeL.nil | (apply TakeL.cons; · repeat (first | exact Take1.head | apply Take1.tail)))) (fun w hw => equalR_any (.slice a121 L.length c121) (.slice aoW L.length caW) L L hLg hLg (by omega) w (hw.src (A := []) (r := ownR (.slice a121 L.length c121) 31 22 L.length (vcs rcV L)) RdOf.own (by repeat (first | exact Take1.head | apply Take1.tail))) (hw.src (A := []) (r := rdR (.slice aoW L.length caW) 22 L.length (vcs rcV L)) RdOf.rd' (by repeat (first | exact Take1.head | apply Take1.tail))) hw.left.here) rfl (fun _ => ⟨_, (by repeat (first | exact TakeL.nil | (apply TakeL.cons; · repeat (first | exact Take1.head | apply Take1.tail))))⟩) ?_ -- t123 slices.Equal[[]hailer/api.Record,hailer/api.Record]
      rintro ⟨⟩ -
      refine WD.know (t := 123) (b' := true) rfl (by first | rfl | (simp; done) | (simp; omega)) ?_
      refine WD.take 5 rfl (by kernel_rfl) (by kernel_rfl) (by kernel_rfl) rfl rfl (Yl.not rfl) rfl ?_ -- t124
      refine WD.know (t := 124) (b' := false) rfl (by first | rfl | (simp; done) | (simp; omega)) ?_
      refine WD.take 6 rfl (by kernel_rfl) (by kernel_rfl) (by kernel_rfl) rfl rfl (Yl.move rfl) rfl ?_ -- t125
      refine WD.know (t := 125) (b' := false) rfl (by first | rfl | (simp; done) | (simp; omega)) ?_
      refine WD.takeOn 7 rfl (by kernel_rfl) (by kernel_rfl) (by kernel_rfl) rfl rfl rfl rfl (Yl.move rfl) rfl ?_ -- t126
      refine WD.takeOn 9 rfl (by kernel_rfl) (by kernel_rfl) (by kernel_rfl) rfl rfl rfl rfl (Yl.move rfl) rfl ?_ -- t128
      refine WD.takeOn 10 rfl (by kernel_rfl) (by kernel_rfl) (by kernel_rfl) rfl rfl rfl rfl (Yl.len un22 rfl) rfl ?_ -- t129
      refine WD.one 8 (by kernel_rfl) ?_
      refine WO.view (fun w h => h.dup (r := bunR (btR (some A))) (by repeat (first | exact Take1.head | apply Take1.tail)) (fun _ h => h)) ?_
      refine WO.callC (xs := [.tmp 126]) (cap := []) rfl (.on rfl rfl) rfl rfl en19 (by repeat (first | exact TakeL.nil | (apply TakeL.cons; · repeat (first | exact Take1.head | apply Take1.tail)))) (fun w hw => lenP_any A w hw.left.here) rfl (fun _ => ⟨_, (by repeat (first | exact TakeL.nil | (apply TakeL.cons; · repeat (first | exact Take1.head | apply Take1.tail))))⟩) ?_ -- t127 (*hailer/merge.Book).Len
      rintro ⟨⟩ -
      dsimp only [List.cons_append, List.nil_append]
      rw [lA]
      refine WD.takeOn 11 rfl (by kernel_rfl) (by kernel_rfl) (by kernel_rfl) rfl rfl rfl rfl (Yl.neq rfl rfl) rfl ?_ -- t130
      refine WD.know (t := 130) (b' := false) rfl (by first | rfl | (simp; done) | (simp; omega)) ?_
      refine WD.take 12 rfl (by kernel_rfl) (by kernel_rfl) (by kernel_rfl) rfl rfl (Yl.pickF rfl rfl) rfl ?_ -- t131
      refine WD.know (t := 131) (b' := false) rfl (by first | rfl | (simp; done) | (simp; omega)) ?_
      refine WD.take 13 rfl (by kernel_rfl) (by kernel_rfl) (by kernel_rfl) rfl rfl (Yl.move rfl) rfl ?_ -- t132
      refine WD.know (t := 132) (b' := false) rfl (by first | rfl | (simp; done) | (simp; omega)) ?_
      refine WD.takeOn 14 rfl (by kernel_rfl) (by kernel_rfl) (by kernel_rfl) rfl rfl rfl rfl (Yl.sliceArr un42 sz5 (by decide) rfl) rfl ?_ -- t133
      refine WD.takeOn 15 rfl (by kernel_rfl) (by kernel_rfl) (by kernel_rfl) rfl rfl rfl rfl (Yl.toStr un50 un5 un9 rfl (show Reads _ _ (.slice (some ⟨b14, 0, none⟩) 8 8) 1 (digF L).length (ints .u8 (digF L)) by rw [digF_len]; exact Reads.of (RdOf.blk (size := 1) (n := 8) (cs := ints .u8 (digF L)) (Nat.le_refl _) (by unfold maxLen; omega) (by rw [hd8]; omega) (by rw [List.drop_zero, List.take_of_length_le (by rw [hd8]; omega)])) (by repeat (first | exact Take1.head | apply Take1.tail)))) rfl ?_ -- t134
      refine WD.takeOn 16 rfl (by kernel_rfl) (by kernel_rfl) (by kernel_rfl) rfl rfl rfl rfl (Yl.move rfl) rfl ?_ -- t135
      refine WD.one 17 (by kernel_rfl) ?_
      refine WO.callC (xs := [.tmp 135]) (cap := []) rfl (.on rfl rfl) rfl rfl en20 (by repeat (first | exact TakeL.nil | (apply TakeL.cons; · repeat (first | exact Take1.head | apply Take1.tail)))) (fun w hw => digestR_any (.slice aoW L.length caW) L hLg (by omega) w (hw.src (A := []) (r := rdR (.slice aoW L.length caW) 22 L.length (vcs rcV L)) RdOf.rd' (by repeat (first | exact Take1.head | apply Take1.tail))) hw.left.here) rfl (fun _ => ⟨_, (by repeat (first | exact TakeL.nil | (apply TakeL.cons; · repeat (first | exact Take1.head | apply Take1.tail))))⟩) ?_ -- t136 hailer/hailerref36.Digest
      rintro ⟨a136, c136⟩ -
      dsimp only [List.cons_append, List.nil_append]
      refine WD.one 18 (by kernel_rfl) ?_
      refine WO.y rfl rfl (.on rfl rfl) (Yl.toStr un50 un5 un9 rfl (show Reads _ _ (subS (.slice a136 (8 * 4) c136) 0 8 c136 1) 1 (digF L).length (ints .u8 (digF L)) by rw [digF_len]; exact Reads.of (r := rdR (subS (.slice a136 (8 * 4) c136) 0 8 c136 1) 1 8 (ints .u8 (digF L))) RdOf.rd' (by repeat (first | exact Take1.head | apply Take1.tail)))) rfl ?_ -- t137
      refine WD.takeOn 19 rfl (by kernel_rfl) (by kernel_rfl) (by kernel_rfl) rfl rfl rfl rfl (Yl.sNe rfl rfl) rfl ?_ -- t138
      refine WD.know (t := 138) (b' := false) rfl (by rw [strEq (digF_by _) (digF_by _)]; simp) ?_
      refine WD.take 20 rfl (by kernel_rfl) (by kernel_rfl) (by kernel_rfl) rfl rfl (Yl.pickF rfl rfl) rfl ?_ -- t139
      refine WD.know (t := 139) (b' := false) rfl (by first | rfl | (simp; done) | (simp; omega)) ?_
      refine WD.done (by kernel_rfl) ?_
      refine WC.condF rfl (by first | rfl | (simp; done) | (simp; omega)) ?_
      refine WC.skip ?_
      refine WC.seq ?_
      refine WC.seq ?_
      refine WC.region ?_
      refine WL.y (Yl.move rfl) rfl ?_ -- t140
      refine WL.view (fun w h => h.dup (r := bunR (btR (some A))) (by repeat (first | exact Take1.head | apply Take1.tail)) (fun _ h => h)) ?_
      refine WL.callC (xs := [.tmp 140]) (cap := []) rfl rfl en21 (by repeat (first | exact TakeL.nil | (apply TakeL.cons; · repeat (first | exact Take1.head | apply Take1.tail)))) (fun w hw => digestsP_any A (by rw [lA]; exact hLo) (by rw [lA]; omega) w hw.left.here) rfl ?_ -- t141 (*hailer/merge.Book).Digests
      rintro ⟨⟩ -
      rw [lA]
      dsimp only [List.cons_append, List.nil_append]
      refine WL.y (Yl.move rfl) rfl ?_ -- t142
      refine WL.nil ?_
      refine WC.block ?_
      refine WC.loop (α := Nat) (fun n => [(4, .slice aoW L.length caW), (141, .agg (ints .u8 (digsF L)).toArray), (142, .int .i64 (n : Int))]) (fun n => [rdR (.slice aoW L.length caW) 22 L.length (vcs rcV L)]) (fun n => n ≤ 16) (fun n => 16 - n) 0 (Nat.zero_le _) ⟨(by repeat (first | exact Sub.nil | refine Sub.cons rfl ?_)), _, (by repeat (first | exact TakeL.nil | (apply TakeL.cons; · repeat (first | exact Take1.head | apply Take1.tail))))⟩ ?_
      intro n hn
      have hb8 : (ints .u8 (bdF L n)).length = 8 := by rw [ints_length, bdF_len]
      refine WC.seq ?_
      refine WC.region ?_
      refine WL.y (Yl.lss rfl rfl) rfl ?_ -- t143
      refine WL.nil ?_
      refine WC.seq ?_
      refine WC.condD rfl (fun g143 => ?_) (fun g143 => ?_)
      · refine WC.skip ?_
        refine WC.seq ?_
        refine WC.block ?_
        refine WC.seq ?_
        refine WC.region ?_
        refine WL.y (Yl.move rfl) rfl ?_ -- t144
        refine WL.y (Yl.idxN (j := n) (m := 8) (cs := ints .u8 (digsF L)) (cs' := ints .u8 (bdF L n)) un52 ag42 rfl rfl rfl (by omega) (by rw [ints_length, digsF_len]; omega) (by rw [ints_drop, ints_take, Nat.mul_comm, digsF_at L (by omega)])) rfl ?_
        refine WL.to (To.alloc (cs := ints .u8 (List.replicate 8 0)) zr42 rfl) rfl ?_ -- t16
        intro b16
        refine WL.y (Yl.assign rfl) rfl ?_ -- t15
        refine WL.sto (Sto.agg sz42 rfl rfl (by repeat (first | exact Take1.head | apply Take1.tail)) (ints_one _ _) hb8 (by rfl) (putAll rfl)) (fun _ h => nomatch h) ?_ -- st 4
        refine WL.nil ?_
        refine WC.seq ?_
        refine WC.drawAny (Hs := [blkR b16 42 (ints .u8 (bdF L n))]) mixed (by kernel_rfl) ⟨_, (by repeat (first | exact TakeL.nil | (apply TakeL.cons; · repeat (first | exact Take1.head | apply Take1.tail))))⟩ ?_
        refine WD.take 0 rfl (by kernel_rfl) (by kernel_rfl) (by kernel_rfl) rfl rfl (Yl.sliceArr un42 sz5 (by decide) rfl) rfl ?_ -- t146
        refine WD.take 1 rfl (by kernel_rfl) (by kernel_rfl) (by kernel_rfl) rfl rfl (Yl.toStr un50 un5 un9 rfl (show Reads _ _ (.slice (some ⟨b16, 0, none⟩) 8 8) 1 (bdF L n).length (ints .u8 (bdF L n)) by rw [bdF_len]; exact Reads.of (RdOf.blk (size := 1) (n := 8) (cs := ints .u8 (bdF L n)) (Nat.le_refl _) (by unfold maxLen; omega) (by rw [hb8]; omega) (by rw [List.drop_zero, List.take_of_length_le (by rw [hb8]; omega)])) (by repeat (first | exact Take1.head | apply Take1.tail)))) rfl ?_ -- t147
        refine WD.take 2 rfl (by kernel_rfl) (by kernel_rfl) (by kernel_rfl) rfl rfl (Yl.move rfl) rfl ?_ -- t148
        refine WD.take 3 rfl (by kernel_rfl) (by kernel_rfl) (by kernel_rfl) rfl rfl (Yl.move rfl) rfl ?_ -- t149
        refine WD.one 4 (by kernel_rfl) ?_
        refine WO.callC (xs := [.tmp 148, .tmp 149]) (cap := []) rfl .no rfl rfl en22 (by repeat (first | exact TakeL.nil | (apply TakeL.cons; · repeat (first | exact Take1.head | apply Take1.tail)))) (fun w hw => bucketR_any (.slice aoW L.length caW) L (n : Int) hLg (by omega) w (hw.src (A := []) (r := rdR (.slice aoW L.length caW) 22 L.length (vcs rcV L)) RdOf.rd' (by repeat (first | exact Take1.head | apply Take1.tail))) hw.left.here) rfl (fun _ => ⟨_, (by repeat (first | exact TakeL.nil | (apply TakeL.cons; · repeat (first | exact Take1.head | apply Take1.tail))))⟩) ?_ -- t150 hailer/hailerref36.Bucket
        rintro ⟨a150, c150⟩ -
        dsimp only [List.cons_append, List.nil_append]
        refine WD.one 5 (by kernel_rfl) ?_
        refine WO.callC (xs := [.tmp 150]) (cap := []) rfl .no rfl rfl en20 (by repeat (first | exact TakeL.nil | (apply TakeL.cons; · repeat (first | exact Take1.head | apply Take1.tail)))) (fun w hw => digestR_any (.slice a150 (buF L (n : Int)).length c150) (buF L (n : Int)) (fun q hq => hLg q (buF_mem hq)) (Nat.le_trans (buF_len _ _) (by omega)) w (hw.src (A := []) (r := ownR (.slice a150 (buF L (n : Int)).length c150) 31 22 (buF L (n : Int)).length (vcs rcV (buF L (n : Int)))) RdOf.own (by repeat (first | exact Take1.head | apply Take1.tail))) hw.left.here) rfl (fun _ => ⟨_, (by repeat (first | exact TakeL.nil | (apply TakeL.cons; · repeat (first | exact Take1.head | apply Take1.tail))))⟩) ?_ -- t151 hailer/hailerref36.Digest
        rintro ⟨a151, c151⟩ -
        dsimp only [List.cons_append, List.nil_append]
        rw [show digF (buF L (n : Int)) = bdF L n from rfl]
        refine WD.one 6 (by kernel_rfl) ?_
        refine WO.y rfl rfl .no (Yl.toStr un50 un5 un9 rfl (show Reads _ _ (subS (.slice a151 (8 * 4) c151) 0 8 c151 1) 1 (bdF L n).length (ints .u8 (bdF L n)) by rw [bdF_len]; exact Reads.of (r := rdR (subS (.slice a151 (8 * 4) c151) 0 8 c151 1) 1 8 (ints .u8 (bdF L n))) RdOf.rd' (by repeat (first | exact Take1.head | apply Take1.tail)))) rfl ?_ -- t152
        refine WD.take 7 rfl (by kernel_rfl) (by kernel_rfl) (by kernel_rfl) rfl rfl (Yl.sNe rfl rfl) rfl ?_ -- t153
        refine WD.know (t := 153) (b' := false) rfl (by rw [strEq (bdF_by _ _) (bdF_by _ _)]; simp) ?_
        refine WD.done (by kernel_rfl) ?_
        refine WC.condF rfl (by first | rfl | (simp; done) | (simp; omega)) ?_
        refine WC.skip ?_
        refine WC.region ?_
        refine WL.y (Yl.add rfl rfl (IntWalk.i64_in _ (by omega))) rfl ?_ -- t154
        refine WL.y (Yl.move rfl) rfl ?_ -- t142
        refine WL.nil ?_
        exact ⟨rfl, n + 1, by omega, by omega, (by repeat (first | exact Sub.nil | refine Sub.cons rfl ?_)), _, (by repeat (first | exact TakeL.nil | (apply TakeL.cons; · repeat (first | exact Take1.head | apply Take1.tail))))⟩
      · refine WC.exit ?_
        refine WC.seq ?_
        refine WC.region ?_
        refine WL.y (Yl.assign rfl) rfl ?_ -- t2
        refine WL.nil ?_
        refine WC.ret ?_
        repeat (first | (with_reducible refine peelT ?_) | (with_reducible refine peelB ?_) | (with_reducible refine peelTX ?_) | (with_reducible refine peelBX ?_) | (with_reducible refine peelBN ?_) | (with_reducible refine peelBO rfl ?_))
        exact ret1 (.inr rfl) Try.results3 rfl fun w' h => ⟨(), trivial, rfl, h.sub (by repeat (first | exact TakeL.nil | (apply TakeL.cons; · repeat (first | exact Take1.head | apply Take1.tail))))⟩
end Go.Proofs.Ytmcdbjbkkejbbaa
