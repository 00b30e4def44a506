/- A bounded list of records: the walks. -/
import Derived.Test.YtpjgmiemamcdhaaLogP
namespace Go.Proofs.Ytpjgmiemamcdhaa
open Go Go.RowKit

def ROk (xs : List Rc) : Prop := ∀ x ∈ xs, x.ok
theorem ROk.get {xs : List Rc} (h : ROk xs) {j : Nat} {x : Rc} (hx : xs[j]? = some x) : x.ok := h x (List.mem_of_getElem? hx)
theorem ROk.filter {xs : List Rc} (h : ROk xs) (p : Rc → Bool) : ROk (xs.filter p) := fun x hx => h x (List.mem_filter.1 hx).1
theorem ROk.drop {xs : List Rc} (h : ROk xs) (n : Nat) : ROk (xs.drop n) := fun x hx => h x (List.mem_of_mem_drop hx)
theorem ROk.app {xs ys : List Rc} (h : ROk xs) (h2 : ROk ys) : ROk (xs ++ ys) := fun x hx => (List.mem_append.1 hx).elim (h x) (h2 x)
theorem ROk.one {x : Rc} (h : x.ok) : ROk [x] := fun y hy => by rw [List.mem_singleton.1 hy]; exact h
theorem ROk.set {xs : List Rc} (h : ROk xs) {j : Nat} {x : Rc} (hx : x.ok) : ROk (xs.set j x) := fun y hy => by
  rcases List.mem_or_eq_of_mem_set hy with h1 | h1
  · exact h y h1
  · exact h1 ▸ hx
theorem ROk.put {xs : List Rc} (h : ROk xs) {x : Rc} (hx : x.ok) (most : Int) : ROk (putF most xs x) := by
  unfold putF
  split
  · exact h.app (ROk.one hx)
  · exact (h.app (ROk.one hx)).drop 1
theorem vcsR_one (x : Rc) : vcs rcV [x] = x.cells := by rw [vcs_one]; simp [rcV, Value.cells]

theorem newR_any (most : Int) (w : World) (hw : OK w (fpL []) [] w) : Fn Try.prog 40 [.int .i64 most] [] w (fun _ : Nat => True) (fun b => .pointer (some ⟨b, 0, none⟩)) (fun b => [blkR b 90 [.slice none 0 0, .int .i64 (if (0 : Int) > most then 0 else most)], ownR (.slice none 0 0) 46 22 0 (vcs rcV [])]) := by
  refine enterF Try.func40 rfl Try.ntmps40 rfl hw ?_
  refine WC.seq ?_
  refine WC.region ?_
  refine WL.y (Yl.assign rfl) rfl ?_ -- t2
  refine WL.nil ?_
  refine WC.seq ?_
  refine WC.region ?_
  refine WL.y (Yl.move rfl) rfl ?_ -- t3
  refine WL.y (Yl.max2 rfl rfl) rfl ?_ -- t4
  refine WL.y (Yl.build rfl (cs := [.slice none 0 0, .int .i64 (if (0 : Int) > most then 0 else most)]) (fun _ => by kernel_rfl)) rfl ?_ -- t5
  refine WL.to (To.box (cs := [.slice none 0 0, .int .i64 (if (0 : Int) > most then 0 else most)]) rfl rfl) rfl ?_ -- t6
  intro b6
  refine WL.y (Yl.assign rfl) rfl ?_ -- t2
  refine WL.nil ?_
  refine WC.ret ?_
  repeat (first | (with_reducible refine peelT ?_) | (with_reducible refine peelB ?_) | (with_reducible refine peelTX ?_) | (with_reducible refine peelBX ?_) | (with_reducible refine peelBN ?_) | (with_reducible refine peelBO rfl ?_))
  exact ret1 (.inr rfl) Try.results40 rfl fun w' h => ⟨b6, trivial, rfl, (h.addNil 46 22).sub (by repeat (first | exact TakeL.nil | (apply TakeL.cons; · repeat (first | exact Take1.head | apply Take1.tail))))⟩

theorem clipR_any (ao : Option Addr) (n cap : Nat) (hn : n ≤ cap) (w : World) (hw : OK w (fpL []) [] w) : Fn Try.prog 62 [.slice ao n cap] [] w (fun _ : Unit => True) (fun _ => subS (.slice ao n cap) 0 n n 22) (fun _ => []) := by
  refine enterF Try.func62 rfl Try.ntmps62 rfl hw ?_
  refine WC.seq ?_
  refine WC.region ?_
  refine WL.y (Yl.assign rfl) rfl ?_ -- t2
  refine WL.nil ?_
  refine WC.seq ?_
  refine WC.region ?_
  refine WL.y (Yl.move rfl) rfl ?_ -- t3
  refine WL.y (Yl.move rfl) rfl ?_ -- t4
  refine WL.y (Yl.len un39 rfl) rfl ?_ -- t5
  refine WL.y (Yl.move rfl) rfl ?_ -- t6
  refine WL.y (Yl.len un39 rfl) rfl ?_ -- t7
  refine WL.y (Yl.slice3 un39 sz46 rfl rfl rfl (by omega) (by omega)) rfl ?_ -- t8
  refine WL.y (Yl.assign rfl) rfl ?_ -- t2
  refine WL.nil ?_
  refine WC.ret ?_
  repeat (first | (with_reducible refine peelT ?_) | (with_reducible refine peelB ?_) | (with_reducible refine peelTX ?_) | (with_reducible refine peelBX ?_) | (with_reducible refine peelBN ?_) | (with_reducible refine peelBO rfl ?_))
  exact ret1 (.inr rfl) Try.results62 rfl fun w' h => ⟨(), trivial, rfl, h.sub (by repeat (first | exact TakeL.nil | (apply TakeL.cons; · repeat (first | exact Take1.head | apply Take1.tail))))⟩

theorem putR_any (b : Nat) (most : Int) (ao : Option Addr) (cap : Nat) (xs : List Rc) (x : Rc) (hG : ROk xs) (hx : x.ok) (hl : xs.length ≤ 1000000) (w : World)
    (hw : OK w (fpL [blkR b 90 [.slice ao xs.length cap, .int .i64 most], ownR (.slice ao xs.length cap) 46 22 xs.length (vcs rcV xs)]) [blkR b 90 [.slice ao xs.length cap, .int .i64 most], ownR (.slice ao xs.length cap) 46 22 xs.length (vcs rcV xs)] w) (hm : 0 ≤ most) :
    Fn Try.prog 45 [.pointer (some ⟨b, 0, none⟩), .agg x.cells.toArray] [blkR b 90 [.slice ao xs.length cap, .int .i64 most], ownR (.slice ao xs.length cap) 46 22 xs.length (vcs rcV xs)] w (fun _ : Option Addr × Nat => True) (fun _ => .tuple #[.agg (outF Rc.zero most xs x).cells.toArray, .bool (fullF most xs)])
      (fun y => [blkR b 90 [.slice y.1 (putF most xs x).length y.2, .int .i64 most], ownR (.slice y.1 (putF most xs x).length y.2) 46 22 (putF most xs x).length (vcs rcV (putF most xs x))]) := by
  obtain ⟨_, _, he, hcl, hml⟩ := (hw.get (.tail .head) : Sown _ _ _ _ _ _).rd.form
  cases he
  obtain ⟨ys, hys⟩ : ∃ ys, xs ++ [x] = ys := ⟨_, rfl⟩
  have hyl : ys.length = xs.length + 1 := by rw [← hys]; simp
  have hne : ys ≠ [] := by intro h; rw [h] at hyl; simp at hyl
  have hYG : ROk ys := by rw [← hys]; exact hG.app (ROk.one hx)
  have hcat : vcs rcV xs ++ x.cells = vcs rcV ys := by rw [← hys, vcs_app, vcsR_one]
  have hx22 := Rc.cells_len hx.len
  have hz : Rc.zero.cells.length = 22 := rfl
  have hhead : (ys.head hne).ok := hYG _ (List.head_mem hne)
  refine enterF Try.func45 rfl Try.ntmps45 rfl hw ?_
  refine WC.seq ?_
  refine WC.region ?_
  refine WL.to (To.box (cs := x.cells) rfl rfl) rfl ?_ -- t3
  intro b3
  refine WL.to (To.alloc (cs := Rc.zero.cells) zr46 rfl) rfl ?_ -- t4
  intro b4
  refine WL.y (Yl.assign rfl) rfl ?_ -- t5
  refine WL.nil ?_
  refine WC.seq ?_
  refine WC.seq ?_
  refine WC.region ?_
  refine WL.y (Yl.move rfl) rfl ?_ -- t6
  refine WL.y (Yl.nilEq un84 rfl rfl) rfl ?_ -- t7
  refine WL.know (t := 7) (b' := false) rfl (by first | rfl | (simp; done) | (simp; omega)) ?_
  refine WL.nil ?_
  refine WC.condF rfl (by first | rfl | (simp; done) | (simp; omega)) ?_
  refine WC.skip ?_
  refine WC.seq ?_
  refine WC.drawAny (Hs := [blkR b3 46 x.cells]) mixed (by kernel_rfl) ⟨_, (by repeat (first | exact TakeL.nil | (apply TakeL.cons; · repeat (first | exact Take1.head | apply Take1.tail))))⟩ ?_
  refine WD.take 0 rfl (by kernel_rfl) (by kernel_rfl) (by kernel_rfl) rfl rfl (Yl.move rfl) rfl ?_ -- t9
  refine WD.take 1 rfl (by kernel_rfl) (by kernel_rfl) (by kernel_rfl) rfl rfl (Yl.move rfl) rfl ?_ -- t10
  refine WD.take 2 rfl (by kernel_rfl) (by kernel_rfl) (by kernel_rfl) rfl rfl (Yl.nilCheck rfl) rfl ?_ -- t11
  refine WD.take 3 rfl (by kernel_rfl) (by kernel_rfl) (by kernel_rfl) rfl rfl (Yl.field fo90_0 rfl) rfl ?_ -- t12
  refine WD.take 6 rfl (by kernel_rfl) (by kernel_rfl) (by kernel_rfl) rfl rfl (Yl.loadN ag46 rfl (by repeat (first | exact Take1.head | apply Take1.tail)) (leB (by rw [hx22]; omega)) (Rc.call hx.len)) rfl ?_ -- t15
  refine WD.two 4 7 (by kernel_rfl) ?_ ?_
  · refine WO.y rfl rfl .no (Yl.load on39 rfl (by repeat (first | exact Take1.head | apply Take1.tail)) (by rfl)) rfl ?_ -- t13
    refine WD.two 5 7 (by kernel_rfl) ?_ ?_
    · refine WO.callC (xs := [.tmp 13]) (cap := []) rfl .no rfl rfl en62 (by repeat (first | exact TakeL.nil | (apply TakeL.cons; · repeat (first | exact Take1.head | apply Take1.tail)))) (fun w hw => clipR_any ao xs.length cap hcl w hw.left.here) rfl (fun _ => ⟨_, (by repeat (first | exact TakeL.nil | (apply TakeL.cons; · repeat (first | exact Take1.head | apply Take1.tail))))⟩) ?_ -- t14 slices.Clip[[]hailer/api.Record,hailer/api.Record]
      rintro ⟨⟩ -
      refine WD.one 7 (by kernel_rfl) ?_
      refine WO.to rfl rfl .no (To.buildSlice (vs := [.agg x.cells.toArray]) un39 zs46 rfl rfl (by simp [Value.cells, hx22]) (by decide) (by decide)) rfl (fun _ => ⟨_, (by repeat (first | exact TakeL.nil | (apply TakeL.cons; · repeat (first | exact Take1.head | apply Take1.tail))))⟩) ?_
      intro b16
      refine WD.one 8 (by kernel_rfl) ?_
      refine WO.to rfl rfl .no (To.view (fun w h => h.subG (by repeat (first | exact Take1.head | apply Take1.tail)) (l := 0) (hh := xs.length) (m := xs.length) (Nat.zero_le _) (Nat.le_refl _) hcl (Nat.le_refl _) (cs' := vcs rcV xs) (by rw [Nat.zero_mul, List.drop_zero, Nat.sub_zero, List.take_of_length_le (by rw [vtR.size hG]; omega)])) (To.append sl39 rfl rfl (by repeat (first | exact Take1.head | apply Take1.tail)) (Reads.of (RdOf.blk (size := 22) (cs := flat [.agg x.cells.toArray]) (cs' := x.cells) (Nat.le_refl _) (by unfold maxLen; omega) (by simp [flat, Value.cells, hx22]) (by simp [flat, Value.cells]; rw [List.take_of_length_le (by rw [hx22]; omega)])) (by repeat (first | exact Take1.head | apply Take1.tail))) (Rc.ones _) (show xs.length - 0 + 1 = ys.length by omega) hcat (by unfold maxLen; omega) (by omega))) rfl (fun _ => ⟨_, (by repeat (first | exact TakeL.nil | (apply TakeL.cons; · repeat (first | exact Take1.head | apply Take1.tail))))⟩) ?_
      rintro ⟨⟨ao17, c17⟩, hc17⟩
      dsimp only at hc17 ⊢
      refine WD.take 9 rfl (by kernel_rfl) (by kernel_rfl) (by kernel_rfl) rfl rfl (Yl.nilCheck rfl) rfl ?_ -- t18
      refine WD.take 10 rfl (by kernel_rfl) (by kernel_rfl) (by kernel_rfl) rfl rfl (Yl.field fo90_0 rfl) rfl ?_ -- t19
      refine WD.one 11 (by kernel_rfl) ?_
      refine WO.sto rfl rfl .no (Sto.one sz39 rfl rfl (by repeat (first | exact Take1.head | apply Take1.tail)) rfl (by rfl) (by rfl)) ⟨_, (by repeat (first | exact TakeL.nil | (apply TakeL.cons; · repeat (first | exact Take1.head | apply Take1.tail))))⟩ ?_ -- st 2
      refine WD.done (by kernel_rfl) ?_
      refine WC.seq ?_
      refine WC.seq ?_
      refine WC.drawRead mixed (by kernel_rfl) ?_
      refine WH.y (Yl.move rfl) rfl ?_ -- t20
      refine WH.y (Yl.nilCheck rfl) rfl ?_ -- t21
      refine WH.y (Yl.field fo90_0 rfl) rfl ?_ -- t22
      refine WH.y (Yl.load on39 rfl (by repeat (first | exact Take1.head | apply Take1.tail)) (by rfl)) rfl ?_ -- t23
      refine WH.y (Yl.len un39 rfl) rfl ?_ -- t24
      refine WH.y (Yl.move rfl) rfl ?_ -- t25
      refine WH.y (Yl.nilCheck rfl) rfl ?_ -- t26
      refine WH.y (Yl.field fo90_1 rfl) rfl ?_ -- t27
      refine WH.y (Yl.load on3 rfl (by repeat (first | exact Take1.head | apply Take1.tail)) (by rfl)) rfl ?_ -- t28
      refine WH.y (Yl.leq rfl rfl) rfl ?_ -- t29
      refine WH.nil ?_
      refine WC.condD rfl (fun g29 => ?_) (fun g29 => ?_)
      · refine WC.seq ?_
        refine WC.region ?_
        have e1 : putF most xs x = ys := by unfold putF; rw [if_pos (by omega), hys]
        have e2 : outF Rc.zero most xs x = Rc.zero := by unfold outF; rw [if_pos (by omega)]
        have e3 : fullF most xs = false := by unfold fullF; rw [decide_eq_true (by omega)]; rfl
        rw [e1, e2, e3]
        refine WL.y (Yl.loadN ag46 rfl (by repeat (first | exact Take1.head | apply Take1.tail)) (by rfl) (show _ = Rc.zero.cells from rfl)) rfl ?_ -- t30
        refine WL.sto (Sto.agg sz46 rfl rfl (by repeat (first | exact Take1.head | apply Take1.tail)) (Rc.ones _) rfl (by rfl) (Rc.all (r := Rc.zero) rfl Rc.zero.cells rfl)) (fun _ h => nomatch h) ?_ -- st 3
        refine WL.y (Yl.assign rfl) rfl ?_ -- t5
        refine WL.nil ?_
        refine WC.ret ?_
        repeat (first | (with_reducible refine peelT ?_) | (with_reducible refine peelB ?_) | (with_reducible refine peelTX ?_) | (with_reducible refine peelBX ?_) | (with_reducible refine peelBN ?_) | (with_reducible refine peelBO rfl ?_))
        first | (exact retC2 (.inr rfl) Try.results45 ag46 rfl rfl (by repeat (first | exact Take1.head | apply Take1.tail)) rfl fun w' h => ⟨(ao17, c17), trivial, rfl, h.sub (by repeat (first | exact TakeL.nil | (apply TakeL.cons; · repeat (first | exact Take1.head | apply Take1.tail))))⟩) | (exact retC2 (.inr rfl) Try.results45 ag46 rfl rfl (by repeat (first | exact Take1.head | apply Take1.tail)) (Rc.cells_len hhead.len) fun w' h => ⟨((if c17 = 1 then ao17 else ao17.map (·.add (1 * 22))), c17 - 1), trivial, rfl, h.sub (by repeat (first | exact TakeL.nil | (apply TakeL.cons; · repeat (first | exact Take1.head | apply Take1.tail))))⟩)
      · refine WC.skip ?_
        refine WC.seq ?_
        refine WC.region ?_
        have e1 : putF most xs x = ys.drop 1 := by unfold putF; rw [if_neg (by omega), hys]
        have e2 : outF Rc.zero most xs x = ys.head hne := by unfold outF; rw [if_neg (by omega)]; simp only [hys]
        have e3 : fullF most xs = true := by unfold fullF; rw [decide_eq_false (by omega)]; rfl
        have e4 : (ys.drop 1).length = ys.length - 1 := List.length_drop
        rw [e1, e2, e3, e4]
        refine WL.y (Yl.move rfl) rfl ?_ -- t31
        refine WL.y (Yl.nilCheck rfl) rfl ?_ -- t32
        refine WL.y (Yl.field fo90_0 rfl) rfl ?_ -- t33
        refine WL.y (Yl.load on39 rfl (by repeat (first | exact Take1.head | apply Take1.tail)) (by rfl)) rfl ?_ -- t34
        refine WL.y (Yl.index (j := 0) un39 sz46 rfl rfl (Reads.of RdOf.own (by repeat (first | exact Take1.head | apply Take1.tail))) rfl (by omega)) rfl ?_ -- t35
        refine WL.y (Yl.loadV (j := 0) (u := ys.head hne) vtR hYG rfl (Reads.of RdOf.own (by repeat (first | exact Take1.head | apply Take1.tail))) rfl (head_get hne)) rfl ?_
        refine WL.sto (Sto.agg sz46 rfl rfl (by repeat (first | exact Take1.head | apply Take1.tail)) (Rc.ones _) (Rc.cells_len hhead.len) (by rfl) (Rc.all (r := Rc.zero) rfl (ys.head hne).cells (Rc.cells_len hhead.len))) (fun _ h => nomatch h) ?_ -- st 4
        refine WL.nil ?_
        refine WC.seq ?_
        refine WC.region ?_
        refine WL.y (Yl.move rfl) rfl ?_ -- t37
        refine WL.y (Yl.move rfl) rfl ?_ -- t38
        refine WL.y (Yl.nilCheck rfl) rfl ?_ -- t39
        refine WL.y (Yl.field fo90_0 rfl) rfl ?_ -- t40
        refine WL.y (Yl.load on39 rfl (by repeat (first | exact Take1.head | apply Take1.tail)) (by rfl)) rfl ?_ -- t41
        refine WL.view (fun w h => h.subG (by repeat (first | exact Take1.head | apply Take1.tail)) (ao := ao17) (l := 1) (hh := ys.length) (m := c17) (by omega) hc17 (Nat.le_refl _) (Nat.le_refl _) (cs' := vcs rcV (ys.drop 1)) (by rw [vtR.drop 1 hYG, List.take_of_length_le (by rw [vtR.size (hYG.drop 1), List.length_drop]; omega)])) ?_
        refine WL.y (Yl.slice (l := 1) un39 sz46 rfl ⟨_, rfl⟩ rfl (by omega) (by omega)) rfl ?_ -- t42
        refine WL.y (Yl.nilCheck rfl) rfl ?_ -- t43
        refine WL.y (Yl.field fo90_0 rfl) rfl ?_ -- t44
        refine WL.sto (Sto.one sz39 rfl rfl (by repeat (first | exact Take1.head | apply Take1.tail)) rfl (by rfl) (by rfl)) (fun _ h => nomatch h) ?_ -- st 5
        refine WL.nil ?_
        refine WC.seq ?_
        refine WC.region ?_
        refine WL.y (Yl.loadN ag46 rfl (by repeat (first | exact Take1.head | apply Take1.tail)) (leB (by rw [Rc.cells_len hhead.len]; omega)) (Rc.call hhead.len)) rfl ?_ -- t45
        refine WL.sto (Sto.agg sz46 rfl rfl (by repeat (first | exact Take1.head | apply Take1.tail)) (Rc.ones _) (Rc.cells_len hhead.len) (leB (by rw [Rc.cells_len hhead.len]; omega)) (Rc.all hhead.len (ys.head hne).cells (Rc.cells_len hhead.len))) (fun _ h => nomatch h) ?_ -- st 6
        refine WL.y (Yl.assign rfl) rfl ?_ -- t5
        refine WL.nil ?_
        refine WC.ret ?_
        repeat (first | (with_reducible refine peelT ?_) | (with_reducible refine peelB ?_) | (with_reducible refine peelTX ?_) | (with_reducible refine peelBX ?_) | (with_reducible refine peelBN ?_) | (with_reducible refine peelBO rfl ?_))
        first | (exact retC2 (.inr rfl) Try.results45 ag46 rfl rfl (by repeat (first | exact Take1.head | apply Take1.tail)) rfl fun w' h => ⟨(ao17, c17), trivial, rfl, h.sub (by repeat (first | exact TakeL.nil | (apply TakeL.cons; · repeat (first | exact Take1.head | apply Take1.tail))))⟩) | (exact retC2 (.inr rfl) Try.results45 ag46 rfl rfl (by repeat (first | exact Take1.head | apply Take1.tail)) (Rc.cells_len hhead.len) fun w' h => ⟨((if c17 = 1 then ao17 else ao17.map (·.add (1 * 22))), c17 - 1), trivial, rfl, h.sub (by repeat (first | exact TakeL.nil | (apply TakeL.cons; · repeat (first | exact Take1.head | apply Take1.tail))))⟩)
    · refine WO.to rfl rfl .no (To.buildSlice (vs := [.agg x.cells.toArray]) un39 zs46 rfl rfl (by simp [Value.cells, hx22]) (by decide) (by decide)) rfl (fun _ => ⟨_, (by repeat (first | exact TakeL.nil | (apply TakeL.cons; · repeat (first | exact Take1.head | apply Take1.tail))))⟩) ?_
      intro b16
      refine WD.one 5 (by kernel_rfl) ?_
      refine WO.callC (xs := [.tmp 13]) (cap := []) rfl .no rfl rfl en62 (by repeat (first | exact TakeL.nil | (apply TakeL.cons; · repeat (first | exact Take1.head | apply Take1.tail)))) (fun w hw => clipR_any ao xs.length cap hcl w hw.left.here) rfl (fun _ => ⟨_, (by repeat (first | exact TakeL.nil | (apply TakeL.cons; · repeat (first | exact Take1.head | apply Take1.tail))))⟩) ?_ -- t14 slices.Clip[[]hailer/api.Record,hailer/api.Record]
      rintro ⟨⟩ -
      refine WD.one 8 (by kernel_rfl) ?_
      refine WO.to rfl rfl .no (To.view (fun w h => h.subG (by repeat (first | exact Take1.head | apply Take1.tail)) (l := 0) (hh := xs.length) (m := xs.length) (Nat.zero_le _) (Nat.le_refl _) hcl (Nat.le_refl _) (cs' := vcs rcV xs) (by rw [Nat.zero_mul, List.drop_zero, Nat.sub_zero, List.take_of_length_le (by rw [vtR.size hG]; omega)])) (To.append sl39 rfl rfl (by repeat (first | exact Take1.head | apply Take1.tail)) (Reads.of (RdOf.blk (size := 22) (cs := flat [.agg x.cells.toArray]) (cs' := x.cells) (Nat.le_refl _) (by unfold maxLen; omega) (by simp [flat, Value.cells, hx22]) (by simp [flat, Value.cells]; rw [List.take_of_length_le (by rw [hx22]; omega)])) (by repeat (first | exact Take1.head | apply Take1.tail))) (Rc.ones _) (show xs.length - 0 + 1 = ys.length by omega) hcat (by unfold maxLen; omega) (by omega))) rfl (fun _ => ⟨_, (by repeat (first | exact TakeL.nil | (apply TakeL.cons; · repeat (first | exact Take1.head | apply Take1.tail))))⟩) ?_
      rintro ⟨⟨ao17, c17⟩, hc17⟩
      dsimp only at hc17 ⊢
      refine WD.take 9 rfl (by kernel_rfl) (by kernel_rfl) (by kernel_rfl) rfl rfl (Yl.nilCheck rfl) rfl ?_ -- t18
      refine WD.take 10 rfl (by kernel_rfl) (by kernel_rfl) (by kernel_rfl) rfl rfl (Yl.field fo90_0 rfl) rfl ?_ -- t19
      refine WD.one 11 (by kernel_rfl) ?_
      refine WO.sto rfl rfl .no (Sto.one sz39 rfl rfl (by repeat (first | exact Take1.head | apply Take1.tail)) rfl (by rfl) (by rfl)) ⟨_, (by repeat (first | exact TakeL.nil | (apply TakeL.cons; · repeat (first | exact Take1.head | apply Take1.tail))))⟩ ?_ -- st 2
      refine WD.done (by kernel_rfl) ?_
      refine WC.seq ?_
      refine WC.seq ?_
      refine WC.drawRead mixed (by kernel_rfl) ?_
      refine WH.y (Yl.move rfl) rfl ?_ -- t20
      refine WH.y (Yl.nilCheck rfl) rfl ?_ -- t21
      refine WH.y (Yl.field fo90_0 rfl) rfl ?_ -- t22
      refine WH.y (Yl.load on39 rfl (by repeat (first | exact Take1.head | apply Take1.tail)) (by rfl)) rfl ?_ -- t23
      refine WH.y (Yl.len un39 rfl) rfl ?_ -- t24
      refine WH.y (Yl.move rfl) rfl ?_ -- t25
      refine WH.y (Yl.nilCheck rfl) rfl ?_ -- t26
      refine WH.y (Yl.field fo90_1 rfl) rfl ?_ -- t27
      refine WH.y (Yl.load on3 rfl (by repeat (first | exact Take1.head | apply Take1.tail)) (by rfl)) rfl ?_ -- t28
      refine WH.y (Yl.leq rfl rfl) rfl ?_ -- t29
      refine WH.nil ?_
      refine WC.condD rfl (fun g29 => ?_) (fun g29 => ?_)
      · refine WC.seq ?_
        refine WC.region ?_
        have e1 : putF most xs x = ys := by unfold putF; rw [if_pos (by omega), hys]
        have e2 : outF Rc.zero most xs x = Rc.zero := by unfold outF; rw [if_pos (by omega)]
        have e3 : fullF most xs = false := by unfold fullF; rw [decide_eq_true (by omega)]; rfl
        rw [e1, e2, e3]
        refine WL.y (Yl.loadN ag46 rfl (by repeat (first | exact Take1.head | apply Take1.tail)) (by rfl) (show _ = Rc.zero.cells from rfl)) rfl ?_ -- t30
        refine WL.sto (Sto.agg sz46 rfl rfl (by repeat (first | exact Take1.head | apply Take1.tail)) (Rc.ones _) rfl (by rfl) (Rc.all (r := Rc.zero) rfl Rc.zero.cells rfl)) (fun _ h => nomatch h) ?_ -- st 3
        refine WL.y (Yl.assign rfl) rfl ?_ -- t5
        refine WL.nil ?_
        refine WC.ret ?_
        repeat (first | (with_reducible refine peelT ?_) | (with_reducible refine peelB ?_) | (with_reducible refine peelTX ?_) | (with_reducible refine peelBX ?_) | (with_reducible refine peelBN ?_) | (with_reducible refine peelBO rfl ?_))
        first | (exact retC2 (.inr rfl) Try.results45 ag46 rfl rfl (by repeat (first | exact Take1.head | apply Take1.tail)) rfl fun w' h => ⟨(ao17, c17), trivial, rfl, h.sub (by repeat (first | exact TakeL.nil | (apply TakeL.cons; · repeat (first | exact Take1.head | apply Take1.tail))))⟩) | (exact retC2 (.inr rfl) Try.results45 ag46 rfl rfl (by repeat (first | exact Take1.head | apply Take1.tail)) (Rc.cells_len hhead.len) fun w' h => ⟨((if c17 = 1 then ao17 else ao17.map (·.add (1 * 22))), c17 - 1), trivial, rfl, h.sub (by repeat (first | exact TakeL.nil | (apply TakeL.cons; · repeat (first | exact Take1.head | apply Take1.tail))))⟩)
      · refine WC.skip ?_
        refine WC.seq ?_
        refine WC.region ?_
        have e1 : putF most xs x = ys.drop 1 := by unfold putF; rw [if_neg (by omega), hys]
        have e2 : outF Rc.zero most xs x = ys.head hne := by unfold outF; rw [if_neg (by omega)]; simp only [hys]
        have e3 : fullF most xs = true := by unfold fullF; rw [decide_eq_false (by omega)]; rfl
        have e4 : (ys.drop 1).length = ys.length - 1 := List.length_drop
        rw [e1, e2, e3, e4]
        refine WL.y (Yl.move rfl) rfl ?_ -- t31
        refine WL.y (Yl.nilCheck rfl) rfl ?_ -- t32
        refine WL.y (Yl.field fo90_0 rfl) rfl ?_ -- t33
        refine WL.y (Yl.load on39 rfl (by repeat (first | exact Take1.head | apply Take1.tail)) (by rfl)) rfl ?_ -- t34
        refine WL.y (Yl.index (j := 0) un39 sz46 rfl rfl (Reads.of RdOf.own (by repeat (first | exact Take1.head | apply Take1.tail))) rfl (by omega)) rfl ?_ -- t35
        refine WL.y (Yl.loadV (j := 0) (u := ys.head hne) vtR hYG rfl (Reads.of RdOf.own (by repeat (first | exact Take1.head | apply Take1.tail))) rfl (head_get hne)) rfl ?_
        refine WL.sto (Sto.agg sz46 rfl rfl (by repeat (first | exact Take1.head | apply Take1.tail)) (Rc.ones _) (Rc.cells_len hhead.len) (by rfl) (Rc.all (r := Rc.zero) rfl (ys.head hne).cells (Rc.cells_len hhead.len))) (fun _ h => nomatch h) ?_ -- st 4
        refine WL.nil ?_
        refine WC.seq ?_
        refine WC.region ?_
        refine WL.y (Yl.move rfl) rfl ?_ -- t37
        refine WL.y (Yl.move rfl) rfl ?_ -- t38
        refine WL.y (Yl.nilCheck rfl) rfl ?_ -- t39
        refine WL.y (Yl.field fo90_0 rfl) rfl ?_ -- t40
        refine WL.y (Yl.load on39 rfl (by repeat (first | exact Take1.head | apply Take1.tail)) (by rfl)) rfl ?_ -- t41
        refine WL.view (fun w h => h.subG (by repeat (first | exact Take1.head | apply Take1.tail)) (ao := ao17) (l := 1) (hh := ys.length) (m := c17) (by omega) hc17 (Nat.le_refl _) (Nat.le_refl _) (cs' := vcs rcV (ys.drop 1)) (by rw [vtR.drop 1 hYG, List.take_of_length_le (by rw [vtR.size (hYG.drop 1), List.length_drop]; omega)])) ?_
        refine WL.y (Yl.slice (l := 1) un39 sz46 rfl ⟨_, rfl⟩ rfl (by omega) (by omega)) rfl ?_ -- t42
        refine WL.y (Yl.nilCheck rfl) rfl ?_ -- t43
        refine WL.y (Yl.field fo90_0 rfl) rfl ?_ -- t44
        refine WL.sto (Sto.one sz39 rfl rfl (by repeat (first | exact Take1.head | apply Take1.tail)) rfl (by rfl) (by rfl)) (fun _ h => nomatch h) ?_ -- st 5
        refine WL.nil ?_
        refine WC.seq ?_
        refine WC.region ?_
        refine WL.y (Yl.loadN ag46 rfl (by repeat (first | exact Take1.head | apply Take1.tail)) (leB (by rw [Rc.cells_len hhead.len]; omega)) (Rc.call hhead.len)) rfl ?_ -- t45
        refine WL.sto (Sto.agg sz46 rfl rfl (by repeat (first | exact Take1.head | apply Take1.tail)) (Rc.ones _) (Rc.cells_len hhead.len) (leB (by rw [Rc.cells_len hhead.len]; omega)) (Rc.all hhead.len (ys.head hne).cells (Rc.cells_len hhead.len))) (fun _ h => nomatch h) ?_ -- st 6
        refine WL.y (Yl.assign rfl) rfl ?_ -- t5
        refine WL.nil ?_
        refine WC.ret ?_
        repeat (first | (with_reducible refine peelT ?_) | (with_reducible refine peelB ?_) | (with_reducible refine peelTX ?_) | (with_reducible refine peelBX ?_) | (with_reducible refine peelBN ?_) | (with_reducible refine peelBO rfl ?_))
        first | (exact retC2 (.inr rfl) Try.results45 ag46 rfl rfl (by repeat (first | exact Take1.head | apply Take1.tail)) rfl fun w' h => ⟨(ao17, c17), trivial, rfl, h.sub (by repeat (first | exact TakeL.nil | (apply TakeL.cons; · repeat (first | exact Take1.head | apply Take1.tail))))⟩) | (exact retC2 (.inr rfl) Try.results45 ag46 rfl rfl (by repeat (first | exact Take1.head | apply Take1.tail)) (Rc.cells_len hhead.len) fun w' h => ⟨((if c17 = 1 then ao17 else ao17.map (·.add (1 * 22))), c17 - 1), trivial, rfl, h.sub (by repeat (first | exact TakeL.nil | (apply TakeL.cons; · repeat (first | exact Take1.head | apply Take1.tail))))⟩)
  · refine WO.to rfl rfl .no (To.buildSlice (vs := [.agg x.cells.toArray]) un39 zs46 rfl rfl (by simp [Value.cells, hx22]) (by decide) (by decide)) rfl (fun _ => ⟨_, (by repeat (first | exact TakeL.nil | (apply TakeL.cons; · repeat (first | exact Take1.head | apply Take1.tail))))⟩) ?_
    intro b16
    refine WD.one 4 (by kernel_rfl) ?_
    refine WO.y rfl rfl .no (Yl.load on39 rfl (by repeat (first | exact Take1.head | apply Take1.tail)) (by rfl)) rfl ?_ -- t13
    refine WD.one 5 (by kernel_rfl) ?_
    refine WO.callC (xs := [.tmp 13]) (cap := []) rfl .no rfl rfl en62 (by repeat (first | exact TakeL.nil | (apply TakeL.cons; · repeat (first | exact Take1.head | apply Take1.tail)))) (fun w hw => clipR_any ao xs.length cap hcl w hw.left.here) rfl (fun _ => ⟨_, (by repeat (first | exact TakeL.nil | (apply TakeL.cons; · repeat (first | exact Take1.head | apply Take1.tail))))⟩) ?_ -- t14 slices.Clip[[]hailer/api.Record,hailer/api.Record]
    rintro ⟨⟩ -
    refine WD.one 8 (by kernel_rfl) ?_
    refine WO.to rfl rfl .no (To.view (fun w h => h.subG (by repeat (first | exact Take1.head | apply Take1.tail)) (l := 0) (hh := xs.length) (m := xs.length) (Nat.zero_le _) (Nat.le_refl _) hcl (Nat.le_refl _) (cs' := vcs rcV xs) (by rw [Nat.zero_mul, List.drop_zero, Nat.sub_zero, List.take_of_length_le (by rw [vtR.size hG]; omega)])) (To.append sl39 rfl rfl (by repeat (first | exact Take1.head | apply Take1.tail)) (Reads.of (RdOf.blk (size := 22) (cs := flat [.agg x.cells.toArray]) (cs' := x.cells) (Nat.le_refl _) (by unfold maxLen; omega) (by simp [flat, Value.cells, hx22]) (by simp [flat, Value.cells]; rw [List.take_of_length_le (by rw [hx22]; omega)])) (by repeat (first | exact Take1.head | apply Take1.tail))) (Rc.ones _) (show xs.length - 0 + 1 = ys.length by omega) hcat (by unfold maxLen; omega) (by omega))) rfl (fun _ => ⟨_, (by repeat (first | exact TakeL.nil | (apply TakeL.cons; · repeat (first | exact Take1.head | apply Take1.tail))))⟩) ?_
    rintro ⟨⟨ao17, c17⟩, hc17⟩
    dsimp only at hc17 ⊢
    refine WD.take 9 rfl (by kernel_rfl) (by kernel_rfl) (by kernel_rfl) rfl rfl (Yl.nilCheck rfl) rfl ?_ -- t18
    refine WD.take 10 rfl (by kernel_rfl) (by kernel_rfl) (by kernel_rfl) rfl rfl (Yl.field fo90_0 rfl) rfl ?_ -- t19
    refine WD.one 11 (by kernel_rfl) ?_
    refine WO.sto rfl rfl .no (Sto.one sz39 rfl rfl (by repeat (first | exact Take1.head | apply Take1.tail)) rfl (by rfl) (by rfl)) ⟨_, (by repeat (first | exact TakeL.nil | (apply TakeL.cons; · repeat (first | exact Take1.head | apply Take1.tail))))⟩ ?_ -- st 2
    refine WD.done (by kernel_rfl) ?_
    refine WC.seq ?_
    refine WC.seq ?_
    refine WC.drawRead mixed (by kernel_rfl) ?_
    refine WH.y (Yl.move rfl) rfl ?_ -- t20
    refine WH.y (Yl.nilCheck rfl) rfl ?_ -- t21
    refine WH.y (Yl.field fo90_0 rfl) rfl ?_ -- t22
    refine WH.y (Yl.load on39 rfl (by repeat (first | exact Take1.head | apply Take1.tail)) (by rfl)) rfl ?_ -- t23
    refine WH.y (Yl.len un39 rfl) rfl ?_ -- t24
    refine WH.y (Yl.move rfl) rfl ?_ -- t25
    refine WH.y (Yl.nilCheck rfl) rfl ?_ -- t26
    refine WH.y (Yl.field fo90_1 rfl) rfl ?_ -- t27
    refine WH.y (Yl.load on3 rfl (by repeat (first | exact Take1.head | apply Take1.tail)) (by rfl)) rfl ?_ -- t28
    refine WH.y (Yl.leq rfl rfl) rfl ?_ -- t29
    refine WH.nil ?_
    refine WC.condD rfl (fun g29 => ?_) (fun g29 => ?_)
    · refine WC.seq ?_
      refine WC.region ?_
      have e1 : putF most xs x = ys := by unfold putF; rw [if_pos (by omega), hys]
      have e2 : outF Rc.zero most xs x = Rc.zero := by unfold outF; rw [if_pos (by omega)]
      have e3 : fullF most xs = false := by unfold fullF; rw [decide_eq_true (by omega)]; rfl
      rw [e1, e2, e3]
      refine WL.y (Yl.loadN ag46 rfl (by repeat (first | exact Take1.head | apply Take1.tail)) (by rfl) (show _ = Rc.zero.cells from rfl)) rfl ?_ -- t30
      refine WL.sto (Sto.agg sz46 rfl rfl (by repeat (first | exact Take1.head | apply Take1.tail)) (Rc.ones _) rfl (by rfl) (Rc.all (r := Rc.zero) rfl Rc.zero.cells rfl)) (fun _ h => nomatch h) ?_ -- st 3
      refine WL.y (Yl.assign rfl) rfl ?_ -- t5
      refine WL.nil ?_
      refine WC.ret ?_
      repeat (first | (with_reducible refine peelT ?_) | (with_reducible refine peelB ?_) | (with_reducible refine peelTX ?_) | (with_reducible refine peelBX ?_) | (with_reducible refine peelBN ?_) | (with_reducible refine peelBO rfl ?_))
      first | (exact retC2 (.inr rfl) Try.results45 ag46 rfl rfl (by repeat (first | exact Take1.head | apply Take1.tail)) rfl fun w' h => ⟨(ao17, c17), trivial, rfl, h.sub (by repeat (first | exact TakeL.nil | (apply TakeL.cons; · repeat (first | exact Take1.head | apply Take1.tail))))⟩) | (exact retC2 (.inr rfl) Try.results45 ag46 rfl rfl (by repeat (first | exact Take1.head | apply Take1.tail)) (Rc.cells_len hhead.len) fun w' h => ⟨((if c17 = 1 then ao17 else ao17.map (·.add (1 * 22))), c17 - 1), trivial, rfl, h.sub (by repeat (first | exact TakeL.nil | (apply TakeL.cons; · repeat (first | exact Take1.head | apply Take1.tail))))⟩)
    · refine WC.skip ?_
      refine WC.seq ?_
      refine WC.region ?_
      have e1 : putF most xs x = ys.drop 1 := by unfold putF; rw [if_neg (by omega), hys]
      have e2 : outF Rc.zero most xs x = ys.head hne := by unfold outF; rw [if_neg (by omega)]; simp only [hys]
      have e3 : fullF most xs = true := by unfold fullF; rw [decide_eq_false (by omega)]; rfl
      have e4 : (ys.drop 1).length = ys.length - 1 := List.length_drop
      rw [e1, e2, e3, e4]
      refine WL.y (Yl.move rfl) rfl ?_ -- t31
      refine WL.y (Yl.nilCheck rfl) rfl ?_ -- t32
      refine WL.y (Yl.field fo90_0 rfl) rfl ?_ -- t33
      refine WL.y (Yl.load on39 rfl (by repeat (first | exact Take1.head | apply Take1.tail)) (by rfl)) rfl ?_ -- t34
      refine WL.y (Yl.index (j := 0) un39 sz46 rfl rfl (Reads.of RdOf.own (by repeat (first | exact Take1.head | apply Take1.tail))) rfl (by omega)) rfl ?_ -- t35
      refine WL.y (Yl.loadV (j := 0) (u := ys.head hne) vtR hYG rfl (Reads.of RdOf.own (by repeat (first | exact Take1.head | apply Take1.tail))) rfl (head_get hne)) rfl ?_
      refine WL.sto (Sto.agg sz46 rfl rfl (by repeat (first | exact Take1.head | apply Take1.tail)) (Rc.ones _) (Rc.cells_len hhead.len) (by rfl) (Rc.all (r := Rc.zero) rfl (ys.head hne).cells (Rc.cells_len hhead.len))) (fun _ h => nomatch h) ?_ -- st 4
      refine WL.nil ?_
      refine WC.seq ?_
      refine WC.region ?_
      refine WL.y (Yl.move rfl) rfl ?_ -- t37
      refine WL.y (Yl.move rfl) rfl ?_ -- t38
      refine WL.y (Yl.nilCheck rfl) rfl ?_ -- t39
      refine WL.y (Yl.field fo90_0 rfl) rfl ?_ -- t40
      refine WL.y (Yl.load on39 rfl (by repeat (first | exact Take1.head | apply Take1.tail)) (by rfl)) rfl ?_ -- t41
      refine WL.view (fun w h => h.subG (by repeat (first | exact Take1.head | apply Take1.tail)) (ao := ao17) (l := 1) (hh := ys.length) (m := c17) (by omega) hc17 (Nat.le_refl _) (Nat.le_refl _) (cs' := vcs rcV (ys.drop 1)) (by rw [vtR.drop 1 hYG, List.take_of_length_le (by rw [vtR.size (hYG.drop 1), List.length_drop]; omega)])) ?_
      refine WL.y (Yl.slice (l := 1) un39 sz46 rfl ⟨_, rfl⟩ rfl (by omega) (by omega)) rfl ?_ -- t42
      refine WL.y (Yl.nilCheck rfl) rfl ?_ -- t43
      refine WL.y (Yl.field fo90_0 rfl) rfl ?_ -- t44
      refine WL.sto (Sto.one sz39 rfl rfl (by repeat (first | exact Take1.head | apply Take1.tail)) rfl (by rfl) (by rfl)) (fun _ h => nomatch h) ?_ -- st 5
      refine WL.nil ?_
      refine WC.seq ?_
      refine WC.region ?_
      refine WL.y (Yl.loadN ag46 rfl (by repeat (first | exact Take1.head | apply Take1.tail)) (leB (by rw [Rc.cells_len hhead.len]; omega)) (Rc.call hhead.len)) rfl ?_ -- t45
      refine WL.sto (Sto.agg sz46 rfl rfl (by repeat (first | exact Take1.head | apply Take1.tail)) (Rc.ones _) (Rc.cells_len hhead.len) (leB (by rw [Rc.cells_len hhead.len]; omega)) (Rc.all hhead.len (ys.head hne).cells (Rc.cells_len hhead.len))) (fun _ h => nomatch h) ?_ -- st 6
      refine WL.y (Yl.assign rfl) rfl ?_ -- t5
      refine WL.nil ?_
      refine WC.ret ?_
      repeat (first | (with_reducible refine peelT ?_) | (with_reducible refine peelB ?_) | (with_reducible refine peelTX ?_) | (with_reducible refine peelBX ?_) | (with_reducible refine peelBN ?_) | (with_reducible refine peelBO rfl ?_))
      first | (exact retC2 (.inr rfl) Try.results45 ag46 rfl rfl (by repeat (first | exact Take1.head | apply Take1.tail)) rfl fun w' h => ⟨(ao17, c17), trivial, rfl, h.sub (by repeat (first | exact TakeL.nil | (apply TakeL.cons; · repeat (first | exact Take1.head | apply Take1.tail))))⟩) | (exact retC2 (.inr rfl) Try.results45 ag46 rfl rfl (by repeat (first | exact Take1.head | apply Take1.tail)) (Rc.cells_len hhead.len) fun w' h => ⟨((if c17 = 1 then ao17 else ao17.map (·.add (1 * 22))), c17 - 1), trivial, rfl, h.sub (by repeat (first | exact TakeL.nil | (apply TakeL.cons; · repeat (first | exact Take1.head | apply Take1.tail))))⟩)
end Go.Proofs.Ytpjgmiemamcdhaa
