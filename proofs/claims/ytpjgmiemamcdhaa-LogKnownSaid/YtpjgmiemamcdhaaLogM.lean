/- The reference's Append and Query, the log's Query: the walks. -/
import Derived.Test.YtpjgmiemamcdhaaLogL
namespace Go.Proofs.Ytpjgmiemamcdhaa
open Go Go.RowKit

theorem rcs_get {xs : List Rc} (hG : ROk xs) {j k : Nat} {x : Rc} {u : Value} (hx : xs[j]? = some x) (h : x.cells[k]? = some u) : (vcs rcV xs)[j * 22 + k]? = some u := by
  have hat := vtR.at hG hx
  have hk := (List.getElem?_eq_some_iff.1 h).1
  rw [Rc.cells_len (hG.get hx).len] at hk
  have : (((vcs rcV xs).drop (j * 22)).take 22)[k]? = some u := by rw [hat]; simpa [rcV, Value.cells] using h
  rwa [List.getElem?_take, if_pos hk, List.getElem?_drop] at this
theorem rcs_id {xs : List Rc} (hG : ROk xs) {j : Nat} {x : Rc} (hx : xs[j]? = some x) : ((vcs rcV xs).drop (j * 22 + 0)).take 16 = ints .u8 x.id := by
  have hat := vtR.at hG hx
  have h1 : (((vcs rcV xs).drop (j * 22)).take 22).take 16 = x.cells.take 16 := by rw [hat]; simp [rcV, Value.cells]
  rw [List.take_take] at h1
  have h2 := Rc.cid (hG.get hx).len
  rw [List.drop_zero] at h2
  rw [Nat.add_zero]
  simpa [h2] using h1
theorem rcs_pos {xs : List Rc} (hG : ROk xs) {j : Nat} {x : Rc} (hx : xs[j]? = some x) : j * 22 + 22 ≤ (vcs rcV xs).length := by
  have := (List.getElem?_eq_some_iff.1 hx).1
  rw [vtR.size hG]
  omega

theorem rapp_any (ao : Option Addr) (cap : Nat) (xs : List Rc) (r : Rc) (hG : ROk xs) (hr : r.ok) (hl : xs.length ≤ 1000000) (w : World) (hw : OK w (fpL [ownR (.slice ao xs.length cap) 46 22 xs.length (vcs rcV xs)]) [ownR (.slice ao xs.length cap) 46 22 xs.length (vcs rcV xs)] w) :
    Fn Try.prog 21 [.slice ao xs.length cap, .agg r.cells.toArray] [ownR (.slice ao xs.length cap) 46 22 xs.length (vcs rcV xs)] w (fun _ : Option Addr × Nat => True) (fun y => .tuple #[.slice y.1 (appF xs r).length y.2, .bool (evF xs r), .bool (mayB r)])
      (fun y => [ownR (.slice y.1 (appF xs r).length y.2) 46 22 (appF xs r).length (vcs rcV (appF xs r))]) := by
  have h22 := Rc.cells_len hr.len
  refine enterF Try.func21 rfl Try.ntmps21 rfl hw ?_
  refine WC.seq ?_
  refine WC.region ?_
  refine WL.to (To.box (cs := r.cells) rfl rfl) rfl ?_ -- t3
  intro b3
  refine WL.y (Yl.assign rfl) rfl ?_ -- t4
  refine WL.y (Yl.assign rfl) rfl ?_ -- t5
  refine WL.y (Yl.assign rfl) rfl ?_ -- t6
  refine WL.nil ?_
  refine WC.seq ?_
  refine WC.seq ?_
  refine WC.region ?_
  refine WL.y (Yl.loadN ag46 rfl (by repeat (first | exact Take1.head | apply Take1.tail)) (leB (by rw [h22]; omega)) (Rc.call hr.len)) rfl ?_ -- t9
  refine WL.callC (xs := [.tmp 9]) (cap := []) rfl rfl en46 (by repeat (first | exact TakeL.nil | (apply TakeL.cons; · repeat (first | exact Take1.head | apply Take1.tail)))) (fun w hw => rmay_any r hr w hw.left.here) rfl ?_ -- t10 hailer/hailerref11.May
  rintro ⟨⟩ -
  refine WL.y (Yl.not rfl) rfl ?_ -- t11
  refine WL.nil ?_
  refine WC.cond rfl (fun g11 => ?_) (fun g11 => ?_)
  · refine WC.seq ?_
    refine WC.region ?_
    refine WL.y (Yl.move rfl) rfl ?_ -- t12
    refine WL.y (Yl.assign rfl) rfl ?_ -- t4
    refine WL.y (Yl.assign rfl) rfl ?_ -- t5
    refine WL.y (Yl.assign rfl) rfl ?_ -- t6
    refine WL.nil ?_
    refine WC.ret ?_
    repeat (first | (with_reducible refine peelT ?_) | (with_reducible refine peelB ?_) | (with_reducible refine peelTX ?_) | (with_reducible refine peelBX ?_) | (with_reducible refine peelBN ?_) | (with_reducible refine peelBO rfl ?_))
    have hm : mayB r = false := by simpa using g11
    have e1 : appF xs r = xs := by unfold appF; rw [hm]; rfl
    have e2 : evF xs r = false := by unfold evF; rw [hm]; rfl
    rw [e1, e2, hm]
    exact ret3 (.inr rfl) Try.results21 rfl rfl rfl fun w' h => ⟨(ao, cap), trivial, rfl, h.sub (by repeat (first | exact TakeL.nil | (apply TakeL.cons; · repeat (first | exact Take1.head | apply Take1.tail))))⟩
  · refine WC.skip ?_
    refine WC.seq ?_
    refine WC.region ?_
    refine WL.y (Yl.assign rfl) rfl ?_ -- t7
    refine WL.nil ?_
    refine WC.seq ?_
    refine WC.seq ?_
    refine WC.region ?_
    refine WL.y (Yl.assign rfl) rfl ?_ -- t8
    refine WL.nil ?_
    refine WC.block ?_
    refine WC.view (fun w h => h.addNil 46 22) ?_
    refine WC.loop (α := Nat × (Option Addr × Nat)) (fun p => [(0, .slice ao xs.length cap), (3, .pointer (some ⟨b3, 0, none⟩)), (7, .slice p.2.1 ((xs.take p.1).filter fun y => !pId r y).length p.2.2), (8, .int .i64 (p.1 : Int))]) (fun p => [ownR (.slice p.2.1 ((xs.take p.1).filter fun y => !pId r y).length p.2.2) 46 22 ((xs.take p.1).filter fun y => !pId r y).length (vcs rcV ((xs.take p.1).filter fun y => !pId r y)), blkR b3 46 r.cells, ownR (.slice ao xs.length cap) 46 22 xs.length (vcs rcV xs)]) (fun p => p.1 ≤ xs.length) (fun p => xs.length - p.1) (0, (none, 0)) (Nat.zero_le _) ⟨(by repeat (first | exact Sub.nil | refine Sub.cons rfl ?_)), _, (by repeat (first | exact TakeL.nil | (apply TakeL.cons; · repeat (first | exact Take1.head | apply Take1.tail))))⟩ ?_
    rintro ⟨i, ⟨ko, kc⟩⟩ hi
    dsimp only at hi ⊢
    have hfl := List.length_filter_le (fun y => !pId r y) (xs.take i)
    have htl : (xs.take i).length ≤ xs.length := by rw [List.length_take]; omega
    refine WC.seq ?_
    refine WC.seq ?_
    refine WC.region ?_
    refine WL.y (Yl.move rfl) rfl ?_ -- t13
    refine WL.y (Yl.move rfl) rfl ?_ -- t14
    refine WL.y (Yl.len un39 rfl) rfl ?_ -- t15
    refine WL.y (Yl.lss rfl rfl) rfl ?_ -- t16
    refine WL.nil ?_
    refine WC.condD rfl (fun g16 => ?_) (fun g16 => ?_)
    · refine WC.skip ?_
      refine WC.seq ?_
      refine WC.block ?_
      refine WC.seq ?_
      obtain ⟨x, hx0⟩ : ∃ x, xs[i]? = some x := ⟨_, List.getElem?_eq_getElem (by omega)⟩
      have hxo := hG.get hx0
      have hx22 := Rc.cells_len hxo.len
      have hpos := rcs_pos hG hx0
      have hnext : ((xs.take (i + 1)).filter fun y => !pId r y) = ((xs.take i).filter fun y => !pId r y) ++ (if pId r x then [] else [x]) := by
        rw [List.take_add_one, hx0, List.filter_append]
        cases hp : pId r x <;> simp [hp]
      refine WC.drawRead mixed (by kernel_rfl) ?_
      refine WH.y (Yl.move rfl) rfl ?_ -- t19
      refine WH.y (Yl.move rfl) rfl ?_ -- t20
      refine WH.y (Yl.index un39 sz46 rfl rfl (Reads.of (RdOf.own (v := .slice ao xs.length cap)) (by repeat (first | exact Take1.head | apply Take1.tail))) rfl (by omega)) rfl ?_ -- t21
      refine WH.y (Yl.fieldV (k := i * 22) fo46_0 rfl (Reads.of (RdOf.own (v := .slice ao xs.length cap)) (by repeat (first | exact Take1.head | apply Take1.tail))) (by omega)) rfl ?_
      refine WH.y (Yl.loadON ag44 (by decide) rfl (Reads.of (RdOf.own (v := .slice ao xs.length cap)) (by repeat (first | exact Take1.head | apply Take1.tail))) (by omega) (rcs_id hG hx0)) rfl ?_
      refine WH.y (Yl.field fo46_0 rfl) rfl ?_ -- t24
      refine WH.y (Yl.loadN ag44 rfl (by repeat (first | exact Take1.head | apply Take1.tail)) (leB (by rw [h22]; omega)) (Rc.cid hr.len)) rfl ?_ -- t25
      refine WH.y (Yl.neA flId rfl rfl (fitsId hxo.len hxo.id) (fitsId hr.len hr.id)) rfl ?_
      rw [eqV_ints]
      refine WH.nil ?_
      refine WC.cond rfl (fun g26 => ?_) (fun g26 => ?_)
      · refine WC.region ?_
        have hp : pId r x = false := by simpa [pId] using g26
        rw [hp] at hnext
        simp only [Bool.false_eq_true, if_false] at hnext
        have hnl : ((xs.take (i + 1)).filter fun y => !pId r y).length = ((xs.take i).filter fun y => !pId r y).length + 1 := by rw [hnext, List.length_append]; rfl
        refine WL.y (Yl.move rfl) rfl ?_ -- t27
        refine WL.y (Yl.move rfl) rfl ?_ -- t28
        refine WL.y (Yl.move rfl) rfl ?_ -- t29
        refine WL.y (Yl.index un39 sz46 rfl rfl (Reads.of (RdOf.own (v := .slice ao xs.length cap)) (by repeat (first | exact Take1.head | apply Take1.tail))) rfl (by omega)) rfl ?_ -- t30
        refine WL.y (Yl.loadV (j := i) (u := x) vtR hG rfl (Reads.of (RdOf.own (v := .slice ao xs.length cap)) (by repeat (first | exact Take1.head | apply Take1.tail))) rfl hx0) rfl ?_
        refine WL.to (To.buildSlice (vs := [.agg x.cells.toArray]) un39 zs46 rfl rfl (by simp [Value.cells, hx22]) (by decide) (by decide)) rfl ?_
        intro b32
        refine WL.to (To.append sl39 rfl rfl (by repeat (first | exact Take1.head | apply Take1.tail)) (Reads.of (RdOf.blk (size := 22) (cs := flat [.agg x.cells.toArray]) (cs' := x.cells) (Nat.le_refl _) (by unfold maxLen; omega) (by simp [flat, Value.cells, hx22]) (by simp [flat, Value.cells]; rw [List.take_of_length_le (by rw [hx22]; omega)])) (by repeat (first | exact Take1.head | apply Take1.tail))) (Rc.ones _) (show _ = ((xs.take (i + 1)).filter fun y => !pId r y).length by rw [hnl]) (show _ = vcs rcV ((xs.take (i + 1)).filter fun y => !pId r y) by rw [hnext, vcs_app, vcsR_one]) (by unfold maxLen; omega) (by omega)) rfl ?_ -- t33
        rintro ⟨⟨ao33, c33⟩, hc33⟩
        dsimp only at hc33 ⊢
        refine WL.y (Yl.assign rfl) rfl ?_ -- t7
        refine WL.nil ?_
        refine WC.region ?_
        refine WL.y (Yl.move rfl) rfl ?_ -- t17
        refine WL.y (Yl.add rfl rfl (IntWalk.i64_in _ (by omega))) rfl ?_ -- t18
        refine WL.y (Yl.assign rfl) rfl ?_ -- t8
        refine WL.nil ?_
        first | exact ⟨rfl, (i + 1, (ao33, c33)), by dsimp only; omega, by dsimp only; omega, (by repeat (first | exact Sub.nil | refine Sub.cons rfl ?_)), _, (by repeat (first | exact TakeL.nil | (apply TakeL.cons; · repeat (first | exact Take1.head | apply Take1.tail))))⟩ | (have hp : pId r x = true := (by simpa [pId] using g26); rw [hp] at hnext; simp only [if_true, List.append_nil] at hnext; refine ⟨rfl, (i + 1, (ko, kc)), by dsimp only; omega, by dsimp only; omega, ?_⟩; dsimp only; rw [hnext]; exact ⟨(by repeat (first | exact Sub.nil | refine Sub.cons rfl ?_)), _, (by repeat (first | exact TakeL.nil | (apply TakeL.cons; · repeat (first | exact Take1.head | apply Take1.tail))))⟩)
      · refine WC.skip ?_
        refine WC.region ?_
        refine WL.y (Yl.move rfl) rfl ?_ -- t17
        refine WL.y (Yl.add rfl rfl (IntWalk.i64_in _ (by omega))) rfl ?_ -- t18
        refine WL.y (Yl.assign rfl) rfl ?_ -- t8
        refine WL.nil ?_
        first | exact ⟨rfl, (i + 1, (ao33, c33)), by dsimp only; omega, by dsimp only; omega, (by repeat (first | exact Sub.nil | refine Sub.cons rfl ?_)), _, (by repeat (first | exact TakeL.nil | (apply TakeL.cons; · repeat (first | exact Take1.head | apply Take1.tail))))⟩ | (have hp : pId r x = true := (by simpa [pId] using g26); rw [hp] at hnext; simp only [if_true, List.append_nil] at hnext; refine ⟨rfl, (i + 1, (ko, kc)), by dsimp only; omega, by dsimp only; omega, ?_⟩; dsimp only; rw [hnext]; exact ⟨(by repeat (first | exact Sub.nil | refine Sub.cons rfl ?_)), _, (by repeat (first | exact TakeL.nil | (apply TakeL.cons; · repeat (first | exact Take1.head | apply Take1.tail))))⟩)
    · refine WC.exit ?_
      refine WC.seq ?_
      refine WC.region ?_
      have hix : i = xs.length := by omega
      subst hix
      rw [List.take_length] at hfl ⊢
      obtain ⟨fs, hfs⟩ : ∃ fs, (xs.filter fun y => !pId r y) = fs := ⟨_, rfl⟩
      rw [hfs] at hfl ⊢
      have hm : mayB r = true := by simpa using g11
      have hFG : ROk fs := by rw [← hfs]; exact hG.filter _
      obtain ⟨ys, hys⟩ : ∃ ys, fs ++ [r] = ys := ⟨_, rfl⟩
      have hyl : ys.length = fs.length + 1 := by rw [← hys]; simp
      have hYG : ROk ys := by rw [← hys]; exact hFG.app (ROk.one hr)
      have hcat : vcs rcV fs ++ r.cells = vcs rcV ys := by rw [← hys, vcs_app, vcsR_one]
      have ea : appF xs r = if ((ys.length : Nat) : Int) ≤ 4096 then ys else ys.drop 1 := by unfold appF putF; rw [if_pos hm, hfs, hys, ← hyl]
      have ee : evF xs r = !decide (((ys.length : Nat) : Int) ≤ 4096) := by unfold evF fullF; rw [hm, hfs, ← hyl, Bool.true_and]
      rw [ea, ee, hm]
      refine WL.y (Yl.move rfl) rfl ?_ -- t34
      refine WL.y (Yl.loadN ag46 rfl (by repeat (first | exact Take1.head | apply Take1.tail)) (leB (by rw [h22]; omega)) (Rc.call hr.len)) rfl ?_ -- t35
      refine WL.to (To.buildSlice (vs := [.agg r.cells.toArray]) un39 zs46 rfl rfl (by simp [Value.cells, h22]) (by decide) (by decide)) rfl ?_
      intro b36
      refine WL.to (To.append sl39 rfl rfl (by repeat (first | exact Take1.head | apply Take1.tail)) (Reads.of (RdOf.blk (size := 22) (cs := flat [.agg r.cells.toArray]) (cs' := r.cells) (Nat.le_refl _) (by unfold maxLen; omega) (by simp [flat, Value.cells, h22]) (by simp [flat, Value.cells]; rw [List.take_of_length_le (by rw [h22]; omega)])) (by repeat (first | exact Take1.head | apply Take1.tail))) (Rc.ones _) hyl.symm hcat (by unfold maxLen; omega) (by omega)) rfl ?_ -- t37
      rintro ⟨⟨ao37, c37⟩, hc37⟩
      dsimp only at hc37 ⊢
      refine WL.y (Yl.assign rfl) rfl ?_ -- t7
      refine WL.nil ?_
      refine WC.seq ?_
      refine WC.seq ?_
      refine WC.region ?_
      refine WL.y (Yl.move rfl) rfl ?_ -- t38
      refine WL.y (Yl.len un39 rfl) rfl ?_ -- t39
      refine WL.y (Yl.gtr rfl rfl) rfl ?_ -- t40
      refine WL.nil ?_
      refine WC.condD rfl (fun g40 => ?_) (fun g40 => ?_)
      · refine WC.seq ?_
        refine WC.region ?_
        have e4 : (ys.drop 1).length = ys.length - 1 := List.length_drop
        rw [if_neg (by omega), decide_eq_false (by omega), e4]
        refine WL.y (Yl.move rfl) rfl ?_ -- t41
        refine WL.y (Yl.slice (l := 1) un39 sz46 rfl ⟨_, rfl⟩ rfl (by omega) (by omega)) rfl ?_ -- t42
        refine WL.y (Yl.assign rfl) rfl ?_ -- t4
        refine WL.y (Yl.assign rfl) rfl ?_ -- t5
        refine WL.y (Yl.assign rfl) rfl ?_ -- t6
        refine WL.nil ?_
        refine WC.ret ?_
        repeat (first | (with_reducible refine peelT ?_) | (with_reducible refine peelB ?_) | (with_reducible refine peelTX ?_) | (with_reducible refine peelBX ?_) | (with_reducible refine peelBN ?_) | (with_reducible refine peelBO rfl ?_))
        first | exact ret3 (.inr rfl) Try.results21 rfl rfl rfl fun w' h => ⟨(ao37, c37), trivial, rfl, h.sub (by repeat (first | exact TakeL.nil | (apply TakeL.cons; · repeat (first | exact Take1.head | apply Take1.tail))))⟩ | exact ret3 (.inr rfl) Try.results21 rfl rfl rfl fun w' h => ⟨((if c37 = 1 then ao37 else ao37.map (·.add (1 * 22))), c37 - 1), trivial, rfl, OK.sub (h.subG (by repeat (first | exact Take1.head | apply Take1.tail)) (ao := ao37) (l := 1) (hh := ys.length) (m := c37) (by omega) hc37 (Nat.le_refl _) (Nat.le_refl _) (cs' := vcs rcV (ys.drop 1)) (by rw [vtR.drop 1 hYG, List.take_of_length_le (by rw [vtR.size (hYG.drop 1), List.length_drop]; omega)])) (by repeat (first | exact TakeL.nil | (apply TakeL.cons; · repeat (first | exact Take1.head | apply Take1.tail))))⟩
      · refine WC.skip ?_
        refine WC.seq ?_
        refine WC.region ?_
        rw [if_pos (by omega), decide_eq_true (by omega)]
        refine WL.y (Yl.move rfl) rfl ?_ -- t43
        refine WL.y (Yl.assign rfl) rfl ?_ -- t4
        refine WL.y (Yl.assign rfl) rfl ?_ -- t5
        refine WL.y (Yl.assign rfl) rfl ?_ -- t6
        refine WL.nil ?_
        refine WC.ret ?_
        repeat (first | (with_reducible refine peelT ?_) | (with_reducible refine peelB ?_) | (with_reducible refine peelTX ?_) | (with_reducible refine peelBX ?_) | (with_reducible refine peelBN ?_) | (with_reducible refine peelBO rfl ?_))
        first | exact ret3 (.inr rfl) Try.results21 rfl rfl rfl fun w' h => ⟨(ao37, c37), trivial, rfl, h.sub (by repeat (first | exact TakeL.nil | (apply TakeL.cons; · repeat (first | exact Take1.head | apply Take1.tail))))⟩ | exact ret3 (.inr rfl) Try.results21 rfl rfl rfl fun w' h => ⟨((if c37 = 1 then ao37 else ao37.map (·.add (1 * 22))), c37 - 1), trivial, rfl, OK.sub (h.subG (by repeat (first | exact Take1.head | apply Take1.tail)) (ao := ao37) (l := 1) (hh := ys.length) (m := c37) (by omega) hc37 (Nat.le_refl _) (Nat.le_refl _) (cs' := vcs rcV (ys.drop 1)) (by rw [vtR.drop 1 hYG, List.take_of_length_le (by rw [vtR.size (hYG.drop 1), List.length_drop]; omega)])) (by repeat (first | exact TakeL.nil | (apply TakeL.cons; · repeat (first | exact Take1.head | apply Take1.tail))))⟩

/-- Whether a record is asked for. -/
def qF (f t o : Int) (x : Rc) : Bool := decide (f ≤ x.en) && decide (x.en < t) && (decide (o = 0) || decide (o = x.oc))
def queryF (f t o : Int) (xs : List Rc) : List Rc := xs.reverse.filter (qF f t o)
theorem filter_take {α : Type} {p : α → Bool} {zs : List α} {i : Nat} {x : α} (h : zs[i]? = some x) : (zs.take (i + 1)).filter p = (zs.take i).filter p ++ (if p x then [x] else []) := by
  rw [List.take_add_one, h, List.filter_append]
  cases hp : p x <;> simp [hp]
theorem filter_get {α : Type} {p : α → Bool} {zs : List α} {i : Nat} {x : α} (h : zs[i]? = some x) (hp : p x = true) : (zs.filter p)[((zs.take i).filter p).length]? = some x := by
  have e : zs.filter p = (zs.take i).filter p ++ (zs.drop i).filter p := by rw [← List.filter_append, List.take_append_drop]
  have hlt := (List.getElem?_eq_some_iff.1 h).1
  have hd : zs.drop i = x :: zs.drop (i + 1) := by
    rw [List.drop_eq_getElem_cons hlt]
    congr 1
    exact (List.getElem?_eq_some_iff.1 h).2
  rw [e, List.getElem?_append_right (Nat.le_refl _), hd]
  simp [hp]

theorem rquery_any (v : Value) (xs : List Rc) (f t o : Int) (hG : ROk xs) (hl : xs.length ≤ 1000000) (w : World) (hx : RdS w (fpL []) v 22 xs.length (vcs rcV xs)) (hw : OK w (fpL []) [] w) :
    Fn Try.prog 23 [v, .int .u64 f, .int .u64 t, .int .u8 o] [] w (fun _ : Option Addr × Nat => True) (fun y => .slice y.1 (queryF f t o xs).length y.2) (fun y => [ownR (.slice y.1 (queryF f t o xs).length y.2) 46 22 (queryF f t o xs).length (vcs rcV (queryF f t o xs))]) := by
  obtain ⟨al, cl, rfl, hcl, hml⟩ := hx.rd.form
  refine enterF Try.func23 rfl Try.ntmps23 rfl hw ?_
  refine WC.seq ?_
  refine WC.region ?_
  refine WL.y (Yl.assign rfl) rfl ?_ -- t8
  refine WL.nil ?_
  refine WC.seq ?_
  refine WC.region ?_
  refine WL.y (Yl.assign rfl) rfl ?_ -- t9
  refine WL.nil ?_
  refine WC.seq ?_
  refine WC.seq ?_
  refine WC.region ?_
  refine WL.y (Yl.move rfl) rfl ?_ -- t11
  refine WL.y (Yl.len un39 rfl) rfl ?_ -- t12
  refine WL.y (Yl.sub rfl rfl (IntWalk.i64_in _ (by omega))) rfl ?_ -- t13
  refine WL.say (t := 13) (v' := .int .i64 ((xs.length : Int) - 1 - ((0 : Nat) : Int))) rfl (by (refine congrArg _ ?_; omega)) ?_
  refine WL.y (Yl.assign rfl) rfl ?_ -- t10
  refine WL.nil ?_
  refine WC.block ?_
  refine WC.view (fun w h => h.addNil 46 22) ?_
  refine WC.loop (α := Nat × (Option Addr × Nat)) (fun p => [(0, .slice al xs.length cl), (1, .int .u64 f), (2, .int .u64 t), (3, .int .u8 o), (9, .slice p.2.1 ((xs.reverse.take p.1).filter (qF f t o)).length p.2.2), (10, .int .i64 ((xs.length : Int) - 1 - (p.1 : Int)))]) (fun p => [ownR (.slice p.2.1 ((xs.reverse.take p.1).filter (qF f t o)).length p.2.2) 46 22 ((xs.reverse.take p.1).filter (qF f t o)).length (vcs rcV ((xs.reverse.take p.1).filter (qF f t o)))]) (fun p => p.1 ≤ xs.length) (fun p => xs.length - p.1) (0, (none, 0)) (Nat.zero_le _) ⟨(by repeat (first | exact Sub.nil | refine Sub.cons rfl ?_)), _, (by repeat (first | exact TakeL.nil | (apply TakeL.cons; · repeat (first | exact Take1.head | apply Take1.tail))))⟩ ?_
  rintro ⟨i, ⟨ko, kc⟩⟩ hi
  dsimp only at hi ⊢
  have hfl := List.length_filter_le (qF f t o) (xs.reverse.take i)
  have htl : (xs.reverse.take i).length ≤ xs.length := by rw [List.length_take, List.length_reverse]; omega
  refine WC.seq ?_
  refine WC.seq ?_
  refine WC.region ?_
  refine WL.y (Yl.move rfl) rfl ?_ -- t14
  refine WL.y (Yl.geq rfl rfl) rfl ?_ -- t15
  refine WL.nil ?_
  refine WC.condD rfl (fun g15 => ?_) (fun g15 => ?_)
  · refine WC.skip ?_
    refine WC.seq ?_
    refine WC.block ?_
    refine WC.seq ?_
    refine WC.region ?_
    have hi2 : i < xs.length := by omega
    obtain ⟨x, hx0⟩ : ∃ x, xs[xs.length - 1 - i]? = some x := ⟨_, List.getElem?_eq_getElem (by omega)⟩
    have hxr : xs.reverse[i]? = some x := by rw [List.getElem?_reverse hi2]; exact hx0
    have hxo := hG.get hx0
    have hx22 := Rc.cells_len hxo.len
    have hpos := rcs_pos hG hx0
    have hnext := filter_take (p := qF f t o) hxr
    refine WL.y (Yl.move rfl) rfl ?_ -- t18
    refine WL.y (Yl.move rfl) rfl ?_ -- t19
    refine WL.say (t := 19) (v' := .int .i64 ((xs.length - 1 - i : Nat) : Int)) rfl (by (refine congrArg _ ?_; omega)) ?_
    refine WL.y (Yl.index un39 sz46 rfl rfl (Reads.s hx) rfl (by omega)) rfl ?_ -- t20
    refine WL.y (Yl.fieldV (k := (xs.length - 1 - i) * 22) fo46_6 rfl (Reads.s hx) (by omega)) rfl ?_
    refine WL.y (Yl.loadO on40 rfl (Reads.s hx) (rcs_get hG hx0 (by have := Rc.c21 hxo.len; simpa using this))) rfl ?_
    refine WL.y (Yl.move rfl) rfl ?_ -- t23
    refine WL.y (Yl.geq rfl rfl) rfl ?_ -- t24
    refine WL.y (Yl.move rfl) rfl ?_ -- t25
    refine WL.both (t := 25) rfl (fun g25 => ?_) (fun g25 => ?_)
    · refine WL.on rfl rfl ?_
      refine WL.y (Yl.move rfl) rfl ?_ -- t26
      refine WL.on rfl rfl ?_
      refine WL.y (Yl.move rfl) rfl ?_ -- t27
      refine WL.say (t := 27) (v' := .int .i64 ((xs.length - 1 - i : Nat) : Int)) rfl (by (refine congrArg _ ?_; omega)) ?_
      refine WL.on rfl rfl ?_
      refine WL.y (Yl.index un39 sz46 rfl rfl (Reads.s hx) rfl (by omega)) rfl ?_ -- t28
      refine WL.on rfl rfl ?_
      refine WL.y (Yl.fieldV (k := (xs.length - 1 - i) * 22) fo46_6 rfl (Reads.s hx) (by omega)) rfl ?_
      refine WL.on rfl rfl ?_
      refine WL.y (Yl.loadO on40 rfl (Reads.s hx) (rcs_get hG hx0 (by have := Rc.c21 hxo.len; simpa using this))) rfl ?_
      refine WL.on rfl rfl ?_
      refine WL.y (Yl.move rfl) rfl ?_ -- t31
      refine WL.on rfl rfl ?_
      refine WL.y (Yl.lss rfl rfl) rfl ?_ -- t32
      refine WL.y (Yl.pickT rfl rfl) rfl ?_ -- t33
      refine WL.y (Yl.move rfl) rfl ?_ -- t34
      refine WL.both (t := 34) rfl (fun g34 => ?_) (fun g34 => ?_)
      · refine WL.on rfl rfl ?_
        refine WL.y (Yl.move rfl) rfl ?_ -- t35
        refine WL.on rfl rfl ?_
        refine WL.y (Yl.eql rfl rfl) rfl ?_ -- t36
        refine WL.on rfl rfl ?_
        refine WL.y (Yl.move rfl) rfl ?_ -- t37
        refine WL.both (t := 37) rfl (fun g37 => ?_) (fun g37 => ?_)
        · refine WL.off rfl rfl rfl rfl ?_ -- t38
          refine WL.off rfl rfl rfl rfl ?_ -- t39
          refine WL.off rfl rfl rfl rfl ?_ -- t40
          refine WL.off rfl rfl rfl rfl ?_ -- t41
          refine WL.off rfl rfl rfl rfl ?_ -- t42
          refine WL.off rfl rfl rfl rfl ?_ -- t43
          refine WL.off rfl rfl rfl rfl ?_ -- t44
          refine WL.on rfl rfl ?_
          refine WL.y (Yl.pickT rfl rfl) rfl ?_ -- t45
          refine WL.y (Yl.pickT rfl rfl) rfl ?_ -- t46
          refine WL.nil ?_
          refine WC.cond rfl (fun g46 => ?_) (fun g46 => ?_)
          · refine WC.region ?_
            have hq : qF f t o x = true := by first | (exfalso; simp at g46; done) | (simp only [decide_eq_true_eq, decide_eq_false_iff_not, ge_iff_le] at *; simp only [qF, Bool.and_eq_true, Bool.or_eq_true, decide_eq_true_eq]; omega)
            rw [hq, if_pos rfl] at hnext
            have hnl : ((xs.reverse.take (i + 1)).filter (qF f t o)).length = ((xs.reverse.take i).filter (qF f t o)).length + 1 := by rw [hnext, List.length_append]; rfl
            refine WL.y (Yl.move rfl) rfl ?_ -- t47
            refine WL.y (Yl.move rfl) rfl ?_ -- t48
            refine WL.y (Yl.move rfl) rfl ?_ -- t49
            refine WL.say (t := 49) (v' := .int .i64 ((xs.length - 1 - i : Nat) : Int)) rfl (by (refine congrArg _ ?_; omega)) ?_
            refine WL.y (Yl.index un39 sz46 rfl rfl (Reads.s hx) rfl (by omega)) rfl ?_ -- t50
            refine WL.y (Yl.loadV (j := xs.length - 1 - i) (u := x) vtR hG rfl (Reads.s hx) rfl hx0) rfl ?_
            refine WL.to (To.buildSlice (vs := [.agg x.cells.toArray]) un39 zs46 rfl rfl (by simp [Value.cells, hx22]) (by decide) (by decide)) rfl ?_
            intro b52
            refine WL.to (To.append sl39 rfl rfl (by repeat (first | exact Take1.head | apply Take1.tail)) (Reads.of (RdOf.blk (size := 22) (cs := flat [.agg x.cells.toArray]) (cs' := x.cells) (Nat.le_refl _) (by unfold maxLen; omega) (by simp [flat, Value.cells, hx22]) (by simp [flat, Value.cells]; rw [List.take_of_length_le (by rw [hx22]; omega)])) (by repeat (first | exact Take1.head | apply Take1.tail))) (Rc.ones _) (show _ = ((xs.reverse.take (i + 1)).filter (qF f t o)).length by rw [hnl]) (show _ = vcs rcV ((xs.reverse.take (i + 1)).filter (qF f t o)) by rw [hnext, vcs_app, vcsR_one]) (by unfold maxLen; omega) (by omega)) rfl ?_ -- t53
            rintro ⟨⟨ao53, c53⟩, hc53⟩
            dsimp only at hc53 ⊢
            refine WL.y (Yl.assign rfl) rfl ?_ -- t9
            refine WL.nil ?_
            refine WC.region ?_
            refine WL.y (Yl.move rfl) rfl ?_ -- t16
            refine WL.y (Yl.sub rfl rfl (IntWalk.i64_in _ (by omega))) rfl ?_ -- t17
            refine WL.say (t := 17) (v' := .int .i64 ((xs.length : Int) - 1 - ((i + 1 : Nat) : Int))) rfl (by (refine congrArg _ ?_; omega)) ?_
            refine WL.y (Yl.assign rfl) rfl ?_ -- t10
            refine WL.nil ?_
            first | (exfalso; simp at g46; done) | exact ⟨rfl, (i + 1, (ao53, c53)), by dsimp only; omega, by dsimp only; omega, (by repeat (first | exact Sub.nil | refine Sub.cons rfl ?_)), _, (by repeat (first | exact TakeL.nil | (apply TakeL.cons; · repeat (first | exact Take1.head | apply Take1.tail))))⟩ | (have hq : qF f t o x = false := (by (simp only [decide_eq_true_eq, decide_eq_false_iff_not, ge_iff_le] at *; rw [← Bool.not_eq_true]; simp only [qF, Bool.and_eq_true, Bool.or_eq_true, decide_eq_true_eq]; omega)); rw [hq] at hnext; simp only [Bool.false_eq_true, if_false, List.append_nil] at hnext; refine ⟨rfl, (i + 1, (ko, kc)), by dsimp only; omega, by dsimp only; omega, ?_⟩; dsimp only; rw [hnext]; exact ⟨(by repeat (first | exact Sub.nil | refine Sub.cons rfl ?_)), _, (by repeat (first | exact TakeL.nil | (apply TakeL.cons; · repeat (first | exact Take1.head | apply Take1.tail))))⟩)
          · refine WC.skip ?_
            refine WC.region ?_
            refine WL.y (Yl.move rfl) rfl ?_ -- t16
            refine WL.y (Yl.sub rfl rfl (IntWalk.i64_in _ (by omega))) rfl ?_ -- t17
            refine WL.say (t := 17) (v' := .int .i64 ((xs.length : Int) - 1 - ((i + 1 : Nat) : Int))) rfl (by (refine congrArg _ ?_; omega)) ?_
            refine WL.y (Yl.assign rfl) rfl ?_ -- t10
            refine WL.nil ?_
            first | (exfalso; simp at g46; done) | exact ⟨rfl, (i + 1, (ao53, c53)), by dsimp only; omega, by dsimp only; omega, (by repeat (first | exact Sub.nil | refine Sub.cons rfl ?_)), _, (by repeat (first | exact TakeL.nil | (apply TakeL.cons; · repeat (first | exact Take1.head | apply Take1.tail))))⟩ | (have hq : qF f t o x = false := (by (simp only [decide_eq_true_eq, decide_eq_false_iff_not, ge_iff_le] at *; rw [← Bool.not_eq_true]; simp only [qF, Bool.and_eq_true, Bool.or_eq_true, decide_eq_true_eq]; omega)); rw [hq] at hnext; simp only [Bool.false_eq_true, if_false, List.append_nil] at hnext; refine ⟨rfl, (i + 1, (ko, kc)), by dsimp only; omega, by dsimp only; omega, ?_⟩; dsimp only; rw [hnext]; exact ⟨(by repeat (first | exact Sub.nil | refine Sub.cons rfl ?_)), _, (by repeat (first | exact TakeL.nil | (apply TakeL.cons; · repeat (first | exact Take1.head | apply Take1.tail))))⟩)
        · refine WL.on rfl rfl ?_
          refine WL.y (Yl.move rfl) rfl ?_ -- t38
          refine WL.on rfl rfl ?_
          refine WL.y (Yl.move rfl) rfl ?_ -- t39
          refine WL.on rfl rfl ?_
          refine WL.y (Yl.move rfl) rfl ?_ -- t40
          refine WL.say (t := 40) (v' := .int .i64 ((xs.length - 1 - i : Nat) : Int)) rfl (by (refine congrArg _ ?_; omega)) ?_
          refine WL.on rfl rfl ?_
          refine WL.y (Yl.index un39 sz46 rfl rfl (Reads.s hx) rfl (by omega)) rfl ?_ -- t41
          refine WL.on rfl rfl ?_
          refine WL.y (Yl.fieldV (k := (xs.length - 1 - i) * 22) fo46_3 rfl (Reads.s hx) (by omega)) rfl ?_
          refine WL.on rfl rfl ?_
          refine WL.y (Yl.loadO on5 rfl (Reads.s hx) (rcs_get hG hx0 (by have := Rc.c18 hxo.len; simpa using this))) rfl ?_
          refine WL.on rfl rfl ?_
          refine WL.y (Yl.eql rfl rfl) rfl ?_ -- t44
          refine WL.on rfl rfl ?_
          refine WL.y (Yl.pickF rfl rfl) rfl ?_ -- t45
          refine WL.y (Yl.pickT rfl rfl) rfl ?_ -- t46
          refine WL.nil ?_
          refine WC.cond rfl (fun g46 => ?_) (fun g46 => ?_)
          · refine WC.region ?_
            have hq : qF f t o x = true := by first | (exfalso; simp at g46; done) | (simp only [decide_eq_true_eq, decide_eq_false_iff_not, ge_iff_le] at *; simp only [qF, Bool.and_eq_true, Bool.or_eq_true, decide_eq_true_eq]; omega)
            rw [hq, if_pos rfl] at hnext
            have hnl : ((xs.reverse.take (i + 1)).filter (qF f t o)).length = ((xs.reverse.take i).filter (qF f t o)).length + 1 := by rw [hnext, List.length_append]; rfl
            refine WL.y (Yl.move rfl) rfl ?_ -- t47
            refine WL.y (Yl.move rfl) rfl ?_ -- t48
            refine WL.y (Yl.move rfl) rfl ?_ -- t49
            refine WL.say (t := 49) (v' := .int .i64 ((xs.length - 1 - i : Nat) : Int)) rfl (by (refine congrArg _ ?_; omega)) ?_
            refine WL.y (Yl.index un39 sz46 rfl rfl (Reads.s hx) rfl (by omega)) rfl ?_ -- t50
            refine WL.y (Yl.loadV (j := xs.length - 1 - i) (u := x) vtR hG rfl (Reads.s hx) rfl hx0) rfl ?_
            refine WL.to (To.buildSlice (vs := [.agg x.cells.toArray]) un39 zs46 rfl rfl (by simp [Value.cells, hx22]) (by decide) (by decide)) rfl ?_
            intro b52
            refine WL.to (To.append sl39 rfl rfl (by repeat (first | exact Take1.head | apply Take1.tail)) (Reads.of (RdOf.blk (size := 22) (cs := flat [.agg x.cells.toArray]) (cs' := x.cells) (Nat.le_refl _) (by unfold maxLen; omega) (by simp [flat, Value.cells, hx22]) (by simp [flat, Value.cells]; rw [List.take_of_length_le (by rw [hx22]; omega)])) (by repeat (first | exact Take1.head | apply Take1.tail))) (Rc.ones _) (show _ = ((xs.reverse.take (i + 1)).filter (qF f t o)).length by rw [hnl]) (show _ = vcs rcV ((xs.reverse.take (i + 1)).filter (qF f t o)) by rw [hnext, vcs_app, vcsR_one]) (by unfold maxLen; omega) (by omega)) rfl ?_ -- t53
            rintro ⟨⟨ao53, c53⟩, hc53⟩
            dsimp only at hc53 ⊢
            refine WL.y (Yl.assign rfl) rfl ?_ -- t9
            refine WL.nil ?_
            refine WC.region ?_
            refine WL.y (Yl.move rfl) rfl ?_ -- t16
            refine WL.y (Yl.sub rfl rfl (IntWalk.i64_in _ (by omega))) rfl ?_ -- t17
            refine WL.say (t := 17) (v' := .int .i64 ((xs.length : Int) - 1 - ((i + 1 : Nat) : Int))) rfl (by (refine congrArg _ ?_; omega)) ?_
            refine WL.y (Yl.assign rfl) rfl ?_ -- t10
            refine WL.nil ?_
            first | (exfalso; simp at g46; done) | exact ⟨rfl, (i + 1, (ao53, c53)), by dsimp only; omega, by dsimp only; omega, (by repeat (first | exact Sub.nil | refine Sub.cons rfl ?_)), _, (by repeat (first | exact TakeL.nil | (apply TakeL.cons; · repeat (first | exact Take1.head | apply Take1.tail))))⟩ | (have hq : qF f t o x = false := (by (simp only [decide_eq_true_eq, decide_eq_false_iff_not, ge_iff_le] at *; rw [← Bool.not_eq_true]; simp only [qF, Bool.and_eq_true, Bool.or_eq_true, decide_eq_true_eq]; omega)); rw [hq] at hnext; simp only [Bool.false_eq_true, if_false, List.append_nil] at hnext; refine ⟨rfl, (i + 1, (ko, kc)), by dsimp only; omega, by dsimp only; omega, ?_⟩; dsimp only; rw [hnext]; exact ⟨(by repeat (first | exact Sub.nil | refine Sub.cons rfl ?_)), _, (by repeat (first | exact TakeL.nil | (apply TakeL.cons; · repeat (first | exact Take1.head | apply Take1.tail))))⟩)
          · refine WC.skip ?_
            refine WC.region ?_
            refine WL.y (Yl.move rfl) rfl ?_ -- t16
            refine WL.y (Yl.sub rfl rfl (IntWalk.i64_in _ (by omega))) rfl ?_ -- t17
            refine WL.say (t := 17) (v' := .int .i64 ((xs.length : Int) - 1 - ((i + 1 : Nat) : Int))) rfl (by (refine congrArg _ ?_; omega)) ?_
            refine WL.y (Yl.assign rfl) rfl ?_ -- t10
            refine WL.nil ?_
            first | (exfalso; simp at g46; done) | exact ⟨rfl, (i + 1, (ao53, c53)), by dsimp only; omega, by dsimp only; omega, (by repeat (first | exact Sub.nil | refine Sub.cons rfl ?_)), _, (by repeat (first | exact TakeL.nil | (apply TakeL.cons; · repeat (first | exact Take1.head | apply Take1.tail))))⟩ | (have hq : qF f t o x = false := (by (simp only [decide_eq_true_eq, decide_eq_false_iff_not, ge_iff_le] at *; rw [← Bool.not_eq_true]; simp only [qF, Bool.and_eq_true, Bool.or_eq_true, decide_eq_true_eq]; omega)); rw [hq] at hnext; simp only [Bool.false_eq_true, if_false, List.append_nil] at hnext; refine ⟨rfl, (i + 1, (ko, kc)), by dsimp only; omega, by dsimp only; omega, ?_⟩; dsimp only; rw [hnext]; exact ⟨(by repeat (first | exact Sub.nil | refine Sub.cons rfl ?_)), _, (by repeat (first | exact TakeL.nil | (apply TakeL.cons; · repeat (first | exact Take1.head | apply Take1.tail))))⟩)
      · refine WL.off rfl rfl rfl rfl ?_ -- t35
        refine WL.off rfl rfl rfl rfl ?_ -- t36
        refine WL.off rfl rfl rfl rfl ?_ -- t37
        refine WL.offU rfl rfl rfl ?_ -- t38
        refine WL.offU rfl rfl rfl ?_ -- t39
        refine WL.offU rfl rfl rfl ?_ -- t40
        refine WL.offU rfl rfl rfl ?_ -- t41
        refine WL.offU rfl rfl rfl ?_ -- t42
        refine WL.offU rfl rfl rfl ?_ -- t43
        refine WL.offU rfl rfl rfl ?_ -- t44
        refine WL.off rfl rfl rfl rfl ?_ -- t45
        refine WL.y (Yl.pickF rfl rfl) rfl ?_ -- t46
        refine WL.nil ?_
        refine WC.cond rfl (fun g46 => ?_) (fun g46 => ?_)
        · refine WC.region ?_
          have hq : qF f t o x = true := by first | (exfalso; simp at g46; done) | (simp only [decide_eq_true_eq, decide_eq_false_iff_not, ge_iff_le] at *; simp only [qF, Bool.and_eq_true, Bool.or_eq_true, decide_eq_true_eq]; omega)
          rw [hq, if_pos rfl] at hnext
          have hnl : ((xs.reverse.take (i + 1)).filter (qF f t o)).length = ((xs.reverse.take i).filter (qF f t o)).length + 1 := by rw [hnext, List.length_append]; rfl
          refine WL.y (Yl.move rfl) rfl ?_ -- t47
          refine WL.y (Yl.move rfl) rfl ?_ -- t48
          refine WL.y (Yl.move rfl) rfl ?_ -- t49
          refine WL.say (t := 49) (v' := .int .i64 ((xs.length - 1 - i : Nat) : Int)) rfl (by (refine congrArg _ ?_; omega)) ?_
          refine WL.y (Yl.index un39 sz46 rfl rfl (Reads.s hx) rfl (by omega)) rfl ?_ -- t50
          refine WL.y (Yl.loadV (j := xs.length - 1 - i) (u := x) vtR hG rfl (Reads.s hx) rfl hx0) rfl ?_
          refine WL.to (To.buildSlice (vs := [.agg x.cells.toArray]) un39 zs46 rfl rfl (by simp [Value.cells, hx22]) (by decide) (by decide)) rfl ?_
          intro b52
          refine WL.to (To.append sl39 rfl rfl (by repeat (first | exact Take1.head | apply Take1.tail)) (Reads.of (RdOf.blk (size := 22) (cs := flat [.agg x.cells.toArray]) (cs' := x.cells) (Nat.le_refl _) (by unfold maxLen; omega) (by simp [flat, Value.cells, hx22]) (by simp [flat, Value.cells]; rw [List.take_of_length_le (by rw [hx22]; omega)])) (by repeat (first | exact Take1.head | apply Take1.tail))) (Rc.ones _) (show _ = ((xs.reverse.take (i + 1)).filter (qF f t o)).length by rw [hnl]) (show _ = vcs rcV ((xs.reverse.take (i + 1)).filter (qF f t o)) by rw [hnext, vcs_app, vcsR_one]) (by unfold maxLen; omega) (by omega)) rfl ?_ -- t53
          rintro ⟨⟨ao53, c53⟩, hc53⟩
          dsimp only at hc53 ⊢
          refine WL.y (Yl.assign rfl) rfl ?_ -- t9
          refine WL.nil ?_
          refine WC.region ?_
          refine WL.y (Yl.move rfl) rfl ?_ -- t16
          refine WL.y (Yl.sub rfl rfl (IntWalk.i64_in _ (by omega))) rfl ?_ -- t17
          refine WL.say (t := 17) (v' := .int .i64 ((xs.length : Int) - 1 - ((i + 1 : Nat) : Int))) rfl (by (refine congrArg _ ?_; omega)) ?_
          refine WL.y (Yl.assign rfl) rfl ?_ -- t10
          refine WL.nil ?_
          first | (exfalso; simp at g46; done) | exact ⟨rfl, (i + 1, (ao53, c53)), by dsimp only; omega, by dsimp only; omega, (by repeat (first | exact Sub.nil | refine Sub.cons rfl ?_)), _, (by repeat (first | exact TakeL.nil | (apply TakeL.cons; · repeat (first | exact Take1.head | apply Take1.tail))))⟩ | (have hq : qF f t o x = false := (by (simp only [decide_eq_true_eq, decide_eq_false_iff_not, ge_iff_le] at *; rw [← Bool.not_eq_true]; simp only [qF, Bool.and_eq_true, Bool.or_eq_true, decide_eq_true_eq]; omega)); rw [hq] at hnext; simp only [Bool.false_eq_true, if_false, List.append_nil] at hnext; refine ⟨rfl, (i + 1, (ko, kc)), by dsimp only; omega, by dsimp only; omega, ?_⟩; dsimp only; rw [hnext]; exact ⟨(by repeat (first | exact Sub.nil | refine Sub.cons rfl ?_)), _, (by repeat (first | exact TakeL.nil | (apply TakeL.cons; · repeat (first | exact Take1.head | apply Take1.tail))))⟩)
        · refine WC.skip ?_
          refine WC.region ?_
          refine WL.y (Yl.move rfl) rfl ?_ -- t16
          refine WL.y (Yl.sub rfl rfl (IntWalk.i64_in _ (by omega))) rfl ?_ -- t17
          refine WL.say (t := 17) (v' := .int .i64 ((xs.length : Int) - 1 - ((i + 1 : Nat) : Int))) rfl (by (refine congrArg _ ?_; omega)) ?_
          refine WL.y (Yl.assign rfl) rfl ?_ -- t10
          refine WL.nil ?_
          first | (exfalso; simp at g46; done) | exact ⟨rfl, (i + 1, (ao53, c53)), by dsimp only; omega, by dsimp only; omega, (by repeat (first | exact Sub.nil | refine Sub.cons rfl ?_)), _, (by repeat (first | exact TakeL.nil | (apply TakeL.cons; · repeat (first | exact Take1.head | apply Take1.tail))))⟩ | (have hq : qF f t o x = false := (by (simp only [decide_eq_true_eq, decide_eq_false_iff_not, ge_iff_le] at *; rw [← Bool.not_eq_true]; simp only [qF, Bool.and_eq_true, Bool.or_eq_true, decide_eq_true_eq]; omega)); rw [hq] at hnext; simp only [Bool.false_eq_true, if_false, List.append_nil] at hnext; refine ⟨rfl, (i + 1, (ko, kc)), by dsimp only; omega, by dsimp only; omega, ?_⟩; dsimp only; rw [hnext]; exact ⟨(by repeat (first | exact Sub.nil | refine Sub.cons rfl ?_)), _, (by repeat (first | exact TakeL.nil | (apply TakeL.cons; · repeat (first | exact Take1.head | apply Take1.tail))))⟩)
    · refine WL.off rfl rfl rfl rfl ?_ -- t26
      refine WL.off rfl rfl rfl rfl ?_ -- t27
      refine WL.off rfl rfl rfl rfl ?_ -- t28
      refine WL.off rfl rfl rfl rfl ?_ -- t29
      refine WL.off rfl rfl rfl rfl ?_ -- t30
      refine WL.off rfl rfl rfl rfl ?_ -- t31
      refine WL.off rfl rfl rfl rfl ?_ -- t32
      refine WL.y (Yl.pickF rfl rfl) rfl ?_ -- t33
      refine WL.y (Yl.move rfl) rfl ?_ -- t34
      refine WL.off rfl rfl rfl rfl ?_ -- t35
      refine WL.off rfl rfl rfl rfl ?_ -- t36
      refine WL.off rfl rfl rfl rfl ?_ -- t37
      refine WL.offU rfl rfl rfl ?_ -- t38
      refine WL.offU rfl rfl rfl ?_ -- t39
      refine WL.offU rfl rfl rfl ?_ -- t40
      refine WL.offU rfl rfl rfl ?_ -- t41
      refine WL.offU rfl rfl rfl ?_ -- t42
      refine WL.offU rfl rfl rfl ?_ -- t43
      refine WL.offU rfl rfl rfl ?_ -- t44
      refine WL.off rfl rfl rfl rfl ?_ -- t45
      refine WL.y (Yl.pickF rfl rfl) rfl ?_ -- t46
      refine WL.nil ?_
      refine WC.cond rfl (fun g46 => ?_) (fun g46 => ?_)
      · refine WC.region ?_
        have hq : qF f t o x = true := by first | (exfalso; simp at g46; done) | (simp only [decide_eq_true_eq, decide_eq_false_iff_not, ge_iff_le] at *; simp only [qF, Bool.and_eq_true, Bool.or_eq_true, decide_eq_true_eq]; omega)
        rw [hq, if_pos rfl] at hnext
        have hnl : ((xs.reverse.take (i + 1)).filter (qF f t o)).length = ((xs.reverse.take i).filter (qF f t o)).length + 1 := by rw [hnext, List.length_append]; rfl
        refine WL.y (Yl.move rfl) rfl ?_ -- t47
        refine WL.y (Yl.move rfl) rfl ?_ -- t48
        refine WL.y (Yl.move rfl) rfl ?_ -- t49
        refine WL.say (t := 49) (v' := .int .i64 ((xs.length - 1 - i : Nat) : Int)) rfl (by (refine congrArg _ ?_; omega)) ?_
        refine WL.y (Yl.index un39 sz46 rfl rfl (Reads.s hx) rfl (by omega)) rfl ?_ -- t50
        refine WL.y (Yl.loadV (j := xs.length - 1 - i) (u := x) vtR hG rfl (Reads.s hx) rfl hx0) rfl ?_
        refine WL.to (To.buildSlice (vs := [.agg x.cells.toArray]) un39 zs46 rfl rfl (by simp [Value.cells, hx22]) (by decide) (by decide)) rfl ?_
        intro b52
        refine WL.to (To.append sl39 rfl rfl (by repeat (first | exact Take1.head | apply Take1.tail)) (Reads.of (RdOf.blk (size := 22) (cs := flat [.agg x.cells.toArray]) (cs' := x.cells) (Nat.le_refl _) (by unfold maxLen; omega) (by simp [flat, Value.cells, hx22]) (by simp [flat, Value.cells]; rw [List.take_of_length_le (by rw [hx22]; omega)])) (by repeat (first | exact Take1.head | apply Take1.tail))) (Rc.ones _) (show _ = ((xs.reverse.take (i + 1)).filter (qF f t o)).length by rw [hnl]) (show _ = vcs rcV ((xs.reverse.take (i + 1)).filter (qF f t o)) by rw [hnext, vcs_app, vcsR_one]) (by unfold maxLen; omega) (by omega)) rfl ?_ -- t53
        rintro ⟨⟨ao53, c53⟩, hc53⟩
        dsimp only at hc53 ⊢
        refine WL.y (Yl.assign rfl) rfl ?_ -- t9
        refine WL.nil ?_
        refine WC.region ?_
        refine WL.y (Yl.move rfl) rfl ?_ -- t16
        refine WL.y (Yl.sub rfl rfl (IntWalk.i64_in _ (by omega))) rfl ?_ -- t17
        refine WL.say (t := 17) (v' := .int .i64 ((xs.length : Int) - 1 - ((i + 1 : Nat) : Int))) rfl (by (refine congrArg _ ?_; omega)) ?_
        refine WL.y (Yl.assign rfl) rfl ?_ -- t10
        refine WL.nil ?_
        first | (exfalso; simp at g46; done) | exact ⟨rfl, (i + 1, (ao53, c53)), by dsimp only; omega, by dsimp only; omega, (by repeat (first | exact Sub.nil | refine Sub.cons rfl ?_)), _, (by repeat (first | exact TakeL.nil | (apply TakeL.cons; · repeat (first | exact Take1.head | apply Take1.tail))))⟩ | (have hq : qF f t o x = false := (by (simp only [decide_eq_true_eq, decide_eq_false_iff_not, ge_iff_le] at *; rw [← Bool.not_eq_true]; simp only [qF, Bool.and_eq_true, Bool.or_eq_true, decide_eq_true_eq]; omega)); rw [hq] at hnext; simp only [Bool.false_eq_true, if_false, List.append_nil] at hnext; refine ⟨rfl, (i + 1, (ko, kc)), by dsimp only; omega, by dsimp only; omega, ?_⟩; dsimp only; rw [hnext]; exact ⟨(by repeat (first | exact Sub.nil | refine Sub.cons rfl ?_)), _, (by repeat (first | exact TakeL.nil | (apply TakeL.cons; · repeat (first | exact Take1.head | apply Take1.tail))))⟩)
      · refine WC.skip ?_
        refine WC.region ?_
        refine WL.y (Yl.move rfl) rfl ?_ -- t16
        refine WL.y (Yl.sub rfl rfl (IntWalk.i64_in _ (by omega))) rfl ?_ -- t17
        refine WL.say (t := 17) (v' := .int .i64 ((xs.length : Int) - 1 - ((i + 1 : Nat) : Int))) rfl (by (refine congrArg _ ?_; omega)) ?_
        refine WL.y (Yl.assign rfl) rfl ?_ -- t10
        refine WL.nil ?_
        first | (exfalso; simp at g46; done) | exact ⟨rfl, (i + 1, (ao53, c53)), by dsimp only; omega, by dsimp only; omega, (by repeat (first | exact Sub.nil | refine Sub.cons rfl ?_)), _, (by repeat (first | exact TakeL.nil | (apply TakeL.cons; · repeat (first | exact Take1.head | apply Take1.tail))))⟩ | (have hq : qF f t o x = false := (by (simp only [decide_eq_true_eq, decide_eq_false_iff_not, ge_iff_le] at *; rw [← Bool.not_eq_true]; simp only [qF, Bool.and_eq_true, Bool.or_eq_true, decide_eq_true_eq]; omega)); rw [hq] at hnext; simp only [Bool.false_eq_true, if_false, List.append_nil] at hnext; refine ⟨rfl, (i + 1, (ko, kc)), by dsimp only; omega, by dsimp only; omega, ?_⟩; dsimp only; rw [hnext]; exact ⟨(by repeat (first | exact Sub.nil | refine Sub.cons rfl ?_)), _, (by repeat (first | exact TakeL.nil | (apply TakeL.cons; · repeat (first | exact Take1.head | apply Take1.tail))))⟩)
  · refine WC.exit ?_
    refine WC.seq ?_
    refine WC.region ?_
    refine WL.y (Yl.move rfl) rfl ?_ -- t54
    refine WL.y (Yl.assign rfl) rfl ?_ -- t8
    refine WL.nil ?_
    refine WC.ret ?_
    repeat (first | (with_reducible refine peelT ?_) | (with_reducible refine peelB ?_) | (with_reducible refine peelTX ?_) | (with_reducible refine peelBX ?_) | (with_reducible refine peelBN ?_) | (with_reducible refine peelBO rfl ?_))
    have hix : i = xs.length := by omega
    subst hix
    have e : queryF f t o xs = (xs.reverse.take xs.length).filter (qF f t o) := by unfold queryF; rw [List.take_of_length_le (by simp)]
    rw [e]
    exact ret1 (.inr rfl) Try.results23 rfl fun w' h => ⟨(ko, kc), trivial, rfl, h.sub (by repeat (first | exact TakeL.nil | (apply TakeL.cons; · repeat (first | exact Take1.head | apply Take1.tail))))⟩
end Go.Proofs.Ytpjgmiemamcdhaa
