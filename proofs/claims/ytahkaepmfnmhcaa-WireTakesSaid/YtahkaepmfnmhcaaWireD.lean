/- Lists put; fields put: the walks. -/
import Derived.Test.YtahkaepmfnmhcaaWireF
import Derived.Test.YtahkaepmfnmhcaaLibN
import Derived.Test.YtahkaepmfnmhcaaLibR
namespace Go.Proofs.Ytahkaepmfnmhcaa
open Go Go.RowKit
set_option linter.unusedSectionVars false

theorem fdV : VT Try.prog 54 5 (fun _ : Fd => True) Fd.val := .agg (cel := Fd.cells) ag54 (by kernel_rfl) (by decide) (fun _ => rfl) (fun _ _ => rfl) Fd.ones
theorem fdAll {fs : List Fd} : ∀ x ∈ fs, (fun _ : Fd => True) x := fun _ _ => trivial

theorem putOne_any (b : Nat) (x : Option Addr × Nat) (lim : Int) (bs : List Int) (wr : Bool) (n : Int) (hlo : -9223372036854775808 ≤ lim ∧ lim ≤ 9223372036854775807) (hf : Fit lim (bs, wr)) (hsz : bs.length + 4 ≤ 140737488355328) (hn : 0 ≤ n ∧ n < 4294967296) (w : World)
    (hw : OK w (fpL (oR b x lim bs wr)) (oR b x lim bs wr) w) :
    Fn Try.prog 28 [.pointer (some ⟨b, 0, none⟩), .int .u32 n] (oR b x lim bs wr) w (fun _ : Option Addr × Nat => True) (fun _ => .tuple #[]) (fun y => oR b y lim (pt lim (bs, wr) (be n 4)).1 (pt lim (bs, wr) (be n 4)).2) := by
  refine enterF Try.func28 rfl Try.ntmps28 rfl hw ?_
  refine WC.region ?_
  refine WL.y (Yl.move rfl) rfl ?_ -- t4
  refine WL.y (Yl.move rfl) rfl ?_ -- t5
  refine WL.to (To.buildSlice (vs := [.int .u32 n]) un52 zs49 rfl rfl (by simp [Value.cells]) (by decide) (by decide)) rfl ?_ -- t6
  intro b6
  refine WL.callC (xs := [.tmp 4, .tmp 6]) (cap := []) rfl rfl en19 (by repeat (first | exact TakeL.nil | (apply TakeL.cons; · repeat (first | exact Take1.head | apply Take1.tail)))) (fun w hw => outU32_any b x lim bs wr [n] (.slice (some ⟨b6, 0, none⟩) 1 1) hlo hf (by rw [total_b4]; simp; omega) (by intro x hx; simp at hx; subst hx; exact hn) w (hw.src (RdOf.blk (cs := [.int .u32 n]) (Nat.le_refl _) (by unfold maxLen; omega) (by simp) rfl) (by repeat (first | exact Take1.head | apply Take1.tail))) hw.left.here) rfl ?_ -- t7 (*hailer/wire.Out).U32
  intro y7 _
  refine WL.nil ?_
  repeat (first | (with_reducible refine peelT ?_) | (with_reducible refine peelB ?_) | (with_reducible refine peelTX ?_) | (with_reducible refine peelBX ?_) | (with_reducible refine peelBN ?_) | (with_reducible refine peelBO rfl ?_))
  exact ret0 (.inl rfl) Try.results28 fun w' h => ⟨y7, trivial, rfl, h.sub (by repeat (first | exact TakeL.nil | (apply TakeL.cons; · repeat (first | exact Take1.head | apply Take1.tail))))⟩

theorem putList_any (b : Nat) (x : Option Addr × Nat) (lim : Int) (bs : List Int) (wr : Bool) (most : Int) (l : List Int) (lv : Value) (hlo : -9223372036854775808 ≤ lim ∧ lim ≤ 9223372036854775807) (hf : Fit lim (bs, wr)) (hsz : bs.length + 2 + 4 * l.length ≤ 140737488355328) (hl : ∀ x ∈ l, 0 ≤ x ∧ x < 4294967296) (w : World)
    (hx : RdS w (fpL (oR b x lim bs wr)) lv 1 l.length (ints .u32 l)) (hw : OK w (fpL (oR b x lim bs wr)) (oR b x lim bs wr) w) :
    Fn Try.prog 27 [.pointer (some ⟨b, 0, none⟩), .int .i64 most, lv, .func (.func 28) #[] #[]] (oR b x lim bs wr) w (fun _ : Option Addr × Nat => True) (fun _ => .tuple #[]) (fun y => oR b y lim (pts lim (mny lim (bs, wr || decide (most < 0)) most l.length) (b4 l)).1 (pts lim (mny lim (bs, wr || decide (most < 0)) most l.length) (b4 l)).2) := by
  obtain ⟨al, cl, rfl, hcl, hml⟩ := hx.rd.form
  unfold maxLen at hml
  refine enterF Try.func27 rfl Try.ntmps27 rfl hw ?_
  refine WC.seq ?_
  refine WC.seq ?_
  refine WC.region ?_
  refine WL.y (Yl.move rfl) rfl ?_ -- t10
  refine WL.y (Yl.nilNe un25 rfl rfl) rfl ?_ -- t11
  refine WL.nil ?_
  refine WC.condT rfl (by first | rfl | (simp; done) | (simp; omega)) ?_
  refine WC.region ?_
  refine WL.y (Yl.move rfl) rfl ?_ -- t12
  refine WL.y (Yl.move rfl) rfl ?_ -- t13
  refine WL.y (Yl.nilCheck rfl) rfl ?_ -- t14
  refine WL.y (Yl.field fo59_2 rfl) rfl ?_ -- t15
  refine WL.y (Yl.load on4 rfl (by repeat (first | exact Take1.head | apply Take1.tail)) (by rfl)) rfl ?_ -- t16
  refine WL.y (Yl.move rfl) rfl ?_ -- t17
  refine WL.both (t := 17) rfl (fun g17 => ?_) (fun g17 => ?_)
  · refine WL.off rfl rfl rfl rfl ?_ -- t18
    refine WL.off rfl rfl rfl rfl ?_ -- t19
    refine WL.y (Yl.pickT rfl rfl) rfl ?_ -- t20
    refine WL.y (Yl.move rfl) rfl ?_ -- t21
    refine WL.off rfl rfl rfl rfl ?_ -- t22
    refine WL.off rfl rfl rfl rfl ?_ -- t23
    refine WL.y (Yl.pickT rfl rfl) rfl ?_ -- t24
    refine WL.y (Yl.nilCheck rfl) rfl ?_ -- t25
    refine WL.y (Yl.field fo59_2 rfl) rfl ?_ -- t26
    refine WL.sto (Sto.one sz4 rfl rfl (by repeat (first | exact Take1.head | apply Take1.tail)) rfl (by rfl) (by rfl)) (fun _ h => nomatch h) ?_ -- st 1
    refine WL.nil ?_
    refine WC.seq ?_
    refine WC.seq ?_
    subst g17
    refine WC.region ?_
    refine WL.y (Yl.move rfl) rfl ?_ -- t27
    refine WL.y (Yl.move rfl) rfl ?_ -- t28
    refine WL.y (Yl.move rfl) rfl ?_ -- t29
    refine WL.y (Yl.len un52 rfl) rfl ?_ -- t30
    refine WL.callC (xs := [.tmp 27, .tmp 28, .tmp 30]) (cap := []) rfl rfl en41 (by repeat (first | exact TakeL.nil | (apply TakeL.cons; · repeat (first | exact Take1.head | apply Take1.tail)))) (fun w hw => outMany_any b x lim bs true most l.length hlo hf (by omega) w hw.left.here) rfl ?_ -- t31 (*hailer/wire.Out).many
    intro y31 _
    rw [mny_wr]
    dsimp only
    refine WL.y (Yl.not rfl) rfl ?_ -- t32
    refine WL.nil ?_
    refine WC.condT rfl (by first | rfl | (simp; done) | (simp; omega)) ?_
    refine WC.ret ?_
    repeat (first | (with_reducible refine peelT ?_) | (with_reducible refine peelB ?_) | (with_reducible refine peelTX ?_) | (with_reducible refine peelBX ?_) | (with_reducible refine peelBN ?_) | (with_reducible refine peelBO rfl ?_))
    exact ret0 (.inr rfl) Try.results27 fun w' h => ⟨y31, trivial, rfl, by rw [Bool.true_or, mny_wr, pts_wr rfl]; exact h.sub (by repeat (first | exact TakeL.nil | (apply TakeL.cons; · repeat (first | exact Take1.head | apply Take1.tail))))⟩
  · refine WL.on rfl rfl ?_
    refine WL.y (Yl.move rfl) rfl ?_ -- t18
    refine WL.on rfl rfl ?_
    refine WL.y (Yl.eqlG rfl rfl (b := false) (fun w => by kernel_rfl)) rfl ?_
    refine WL.know (t := 19) (b' := false) rfl (by first | rfl | (simp; done) | (simp; omega)) ?_
    refine WL.y (Yl.pickF rfl rfl) rfl ?_ -- t20
    refine WL.y (Yl.move rfl) rfl ?_ -- t21
    refine WL.on rfl rfl ?_
    refine WL.y (Yl.move rfl) rfl ?_ -- t22
    refine WL.on rfl rfl ?_
    refine WL.y (Yl.lss rfl rfl) rfl ?_ -- t23
    refine WL.y (Yl.pickF rfl rfl) rfl ?_ -- t24
    refine WL.y (Yl.nilCheck rfl) rfl ?_ -- t25
    refine WL.y (Yl.field fo59_2 rfl) rfl ?_ -- t26
    refine WL.sto (Sto.one sz4 rfl rfl (by repeat (first | exact Take1.head | apply Take1.tail)) rfl (by rfl) (by rfl)) (fun _ h => nomatch h) ?_ -- st 1
    refine WL.nil ?_
    refine WC.seq ?_
    refine WC.seq ?_
    subst g17
    rw [Bool.false_or]
    obtain ⟨s1, hs1⟩ : ∃ s1, mny lim (bs, decide (most < 0)) most l.length = s1 := ⟨_, rfl⟩
    have hf1 : Fit lim s1 := hs1 ▸ mny_fit (wr := false) hf _ _ _
    have hl1 : s1.1.length ≤ bs.length + 2 := hs1 ▸ mny_len lim (bs, decide (most < 0)) most l.length
    refine WC.region ?_
    refine WL.y (Yl.move rfl) rfl ?_ -- t27
    refine WL.y (Yl.move rfl) rfl ?_ -- t28
    refine WL.y (Yl.move rfl) rfl ?_ -- t29
    refine WL.y (Yl.len un52 rfl) rfl ?_ -- t30
    refine WL.callC (xs := [.tmp 27, .tmp 28, .tmp 30]) (cap := []) rfl rfl en41 (by repeat (first | exact TakeL.nil | (apply TakeL.cons; · repeat (first | exact Take1.head | apply Take1.tail)))) (fun w hw => outMany_any b x lim bs (decide (most < 0)) most l.length hlo hf (by omega) w hw.left.here) rfl ?_ -- t31 (*hailer/wire.Out).many
    intro y31 _
    rw [hs1]
    obtain ⟨sb, sw⟩ := s1
    dsimp only at hl1 ⊢
    refine WL.y (Yl.not rfl) rfl ?_ -- t32
    refine WL.nil ?_
    refine WC.cond rfl (fun g32 => ?_) (fun g32 => ?_)
    · refine WC.ret ?_
      repeat (first | (with_reducible refine peelT ?_) | (with_reducible refine peelB ?_) | (with_reducible refine peelTX ?_) | (with_reducible refine peelBX ?_) | (with_reducible refine peelBN ?_) | (with_reducible refine peelBO rfl ?_))
      have g := notF (show (!sw) = false by simpa using g32)
      exact ret0 (.inr rfl) Try.results27 fun w' h => ⟨y31, trivial, rfl, by rw [pts_wr (by simpa using g32)]; exact h.sub (by repeat (first | exact TakeL.nil | (apply TakeL.cons; · repeat (first | exact Take1.head | apply Take1.tail))))⟩
    · refine WC.skip ?_
      refine WC.seq ?_
      refine WC.region ?_
      refine WL.y (Yl.move rfl) rfl ?_ -- t33
      refine WL.y (Yl.len un52 rfl) rfl ?_ -- t34
      refine WL.y (Yl.move rfl) rfl ?_ -- t35
      refine WL.nil ?_
      refine WC.block ?_
      refine WC.loop (α := Nat × (Option Addr × Nat)) (fun p => [(0, .pointer (some ⟨b, 0, none⟩)), (3, .func (.func 28) #[] #[]), (33, .slice al l.length cl), (34, .int .i64 (l.length : Int)), (35, .int .i64 (p.1 : Int))]) (fun p => oR b p.2 lim (pts lim (sb, sw) ((b4 l).take p.1)).1 (pts lim (sb, sw) ((b4 l).take p.1)).2) (fun p => p.1 ≤ l.length) (fun p => l.length - p.1) (0, y31) (Nat.zero_le _) ⟨(by repeat (first | exact Sub.nil | refine Sub.cons rfl ?_)), _, (by repeat (first | exact TakeL.nil | (apply TakeL.cons; · repeat (first | exact Take1.head | apply Take1.tail))))⟩ ?_
      rintro ⟨j, y⟩ hj
      dsimp only at hj ⊢
      refine WC.seq ?_
      refine WC.region ?_
      refine WL.y (Yl.lss rfl rfl) rfl ?_ -- t36
      refine WL.nil ?_
      refine WC.seq ?_
      refine WC.condD rfl (fun g36 => ?_) (fun g36 => ?_)
      · refine WC.skip ?_
        refine WC.seq ?_
        refine WC.block ?_
        refine WC.seq ?_
        refine WC.region ?_
        have hjl : j < l.length := by omega
        have hn := hl _ (List.mem_of_getElem? (getD_of hjl))
        have hb : (b4 l)[j]? = some (be (l.getD j 0) 4) := by simp [b4, hjl]
        have hq := total_take hb
        rw [be_len, total_b4] at hq
        have hq2 := pts_len (lim := lim) ((b4 l).take j) (sb, sw)
        dsimp only at hq2
        have hq3 := pts_fit ((b4 l).take j) hf1
        have hq4 : pts lim (sb, sw) ((b4 l).take (j + 1)) = pt lim (pts lim (sb, sw) ((b4 l).take j)) (be (l.getD j 0) 4) := by rw [← take_snoc _ _ _ hb, pts_snoc]
        generalize pts lim (sb, sw) ((b4 l).take j) = s at hq2 hq3 hq4 ⊢
        obtain ⟨tb, tw⟩ := s
        dsimp only at hq2 ⊢
        refine WL.y (Yl.index un52 sz49 rfl rfl (Reads.s hx) rfl (by omega)) rfl ?_ -- t37
        refine WL.y (Yl.loadE on49 rfl (Reads.s hx) (ints_get .u32 l j (by omega))) rfl ?_ -- t38
        refine WL.y (Yl.assign rfl) rfl ?_ -- t9
        refine WL.nil ?_
        refine WC.region ?_
        refine WL.y (Yl.move rfl) rfl ?_ -- t39
        refine WL.y (Yl.move rfl) rfl ?_ -- t40
        refine WL.y (Yl.move rfl) rfl ?_ -- t41
        refine WL.callC (xs := [.tmp 40, .tmp 41]) (cap := []) rfl rfl en28 (by repeat (first | exact TakeL.nil | (apply TakeL.cons; · repeat (first | exact Take1.head | apply Take1.tail)))) (fun w hw => putOne_any b y lim tb tw (l.getD j 0) hlo hq3 (by omega) hn w hw.left.here) rfl ?_ -- t42 
        intro y2 _
        refine WL.nil ?_
        refine WC.region ?_
        refine WL.y (Yl.add rfl rfl (IntWalk.i64_in _ (by omega))) rfl ?_ -- t43
        refine WL.y (Yl.move rfl) rfl ?_ -- t35
        refine WL.nil ?_
        refine ⟨rfl, (j + 1, y2), by dsimp only; omega, by dsimp only; omega, (by repeat (first | exact Sub.nil | refine Sub.cons rfl ?_)), _, (by dsimp only; rw [hq4]; exact (by repeat (first | exact TakeL.nil | (apply TakeL.cons; · repeat (first | exact Take1.head | apply Take1.tail)))))⟩
      · refine WC.exit ?_
        repeat (first | (with_reducible refine peelT ?_) | (with_reducible refine peelB ?_) | (with_reducible refine peelTX ?_) | (with_reducible refine peelBX ?_) | (with_reducible refine peelBN ?_) | (with_reducible refine peelBO rfl ?_))
        have hj2 : j = (b4 l).length := by simp [b4]; omega
        exact ret0 (.inl rfl) Try.results27 fun w' h => ⟨y, trivial, rfl, by rw [hj2, List.take_length] at h; exact h.sub (by repeat (first | exact TakeL.nil | (apply TakeL.cons; · repeat (first | exact Take1.head | apply Take1.tail))))⟩

theorem great_any (fs : List Fd) (v : Value) (hsz : ∀ f ∈ fs, f.b.length ≤ 140737488355328 ∧ f.l.length ≤ 140737488355328) (w : World) (hx : FdS w (fpL []) v fs) (hw : OK w (fpL []) [] w) :
    Fn Try.prog 7 [v] [] w (fun _ : Unit => True) (fun _ => .bool (decide (3000 < wts fs))) (fun _ => []) := by
  obtain ⟨al, cl, rfl, hcl, hml⟩ := hx.rows.rd.form
  unfold maxLen at hml
  refine enterF Try.func7 rfl Try.ntmps7 rfl hw ?_
  refine WC.seq ?_
  refine WC.region ?_
  refine WL.y (Yl.assign rfl) rfl ?_ -- t2
  refine WL.nil ?_
  refine WC.seq ?_
  refine WC.region ?_
  refine WL.y (Yl.assign rfl) rfl ?_ -- t3
  refine WL.nil ?_
  refine WC.seq ?_
  refine WC.seq ?_
  refine WC.region ?_
  refine WL.y (Yl.assign rfl) rfl ?_ -- t4
  refine WL.nil ?_
  refine WC.block ?_
  refine WC.loop (α := Nat) (fun j => [(0, .slice al fs.length cl), (3, .int .i64 (wts (fs.take j) : Nat)), (4, .int .i64 (j : Int))]) (fun _ => []) (fun j => j ≤ fs.length ∧ wts (fs.take (j - 1)) ≤ 3000) (fun j => fs.length - j) 0 ⟨Nat.zero_le _, by simp [wts]⟩ ⟨(by repeat (first | exact Sub.nil | refine Sub.cons rfl ?_)), _, (by repeat (first | exact TakeL.nil | (apply TakeL.cons; · repeat (first | exact Take1.head | apply Take1.tail))))⟩ ?_
  rintro j ⟨hj, hj3⟩
  refine WC.seq ?_
  refine WC.seq ?_
  refine WC.region ?_
  refine WL.y (Yl.move rfl) rfl ?_ -- t5
  refine WL.y (Yl.move rfl) rfl ?_ -- t6
  refine WL.y (Yl.len un22 rfl) rfl ?_ -- t7
  refine WL.y (Yl.lss rfl rfl) rfl ?_ -- t8
  refine WL.y (Yl.move rfl) rfl ?_ -- t9
  refine WL.both (t := 9) rfl (fun g9 => ?_) (fun g9 => ?_)
  · refine WL.on rfl rfl ?_
    refine WL.y (Yl.move rfl) rfl ?_ -- t10
    refine WL.on rfl rfl ?_
    refine WL.y (Yl.leq rfl rfl) rfl ?_ -- t11
    refine WL.y (Yl.pickT rfl rfl) rfl ?_ -- t12
    refine WL.nil ?_
    refine WC.condD rfl (fun g12 => ?_) (fun g12 => ?_)
    · refine WC.skip ?_
      refine WC.seq ?_
      refine WC.block ?_
      refine WC.drawRead mixed (by kernel_rfl) ?_
      simp only [decide_eq_true_eq] at *
      obtain ⟨f, hfj⟩ : ∃ f, fs[j]? = some f := ⟨_, List.getElem?_eq_getElem (by omega)⟩
      have hfm := List.mem_of_getElem? hfj
      have hfs := hsz f hfm
      have hwt := wts_take hfj
      have hwf : wtF f = 1 + f.b.length / 8 + f.l.length := rfl
      have hcell := fdV.at fdAll hfj
      refine WH.y (Yl.move rfl) rfl ?_ -- t15
      refine WH.y (Yl.add rfl rfl (IntWalk.i64_in _ (by omega))) rfl ?_ -- t16
      refine WH.y (Yl.move rfl) rfl ?_ -- t17
      refine WH.y (Yl.move rfl) rfl ?_ -- t18
      refine WH.y (Yl.index un22 sz54 rfl rfl (Reads.s hx.rows) rfl (by omega)) rfl ?_ -- t19
      refine WH.y (Yl.fieldV fo54_2 rfl (Reads.s hx.rows) (by rw [fdV.size fdAll]; omega)) rfl ?_
      refine WH.y (Yl.loadO (u := .slice f.ba f.b.length f.bc) on28 rfl (Reads.s hx.rows) (cellV fdV fdAll hfj (k := 2) (by decide) rfl)) rfl ?_
      refine WH.y (Yl.len un28 rfl) rfl ?_ -- t22
      refine WH.y (Yl.quo rfl rfl (by omega) (i64_quo (by omega) (by omega))) rfl ?_ -- t23
      refine WH.y (Yl.add rfl rfl (IntWalk.i64_in _ (by omega))) rfl ?_ -- t24
      refine WH.y (Yl.move rfl) rfl ?_ -- t25
      refine WH.y (Yl.move rfl) rfl ?_ -- t26
      refine WH.y (Yl.index un22 sz54 rfl rfl (Reads.s hx.rows) rfl (by omega)) rfl ?_ -- t27
      refine WH.y (Yl.fieldV fo54_3 rfl (Reads.s hx.rows) (by rw [fdV.size fdAll]; omega)) rfl ?_
      refine WH.y (Yl.loadO (u := .slice f.la f.l.length f.lc) on52 rfl (Reads.s hx.rows) (cellV fdV fdAll hfj (k := 3) (by decide) rfl)) rfl ?_
      refine WH.y (Yl.len un52 rfl) rfl ?_ -- t30
      refine WH.y (Yl.add rfl rfl (IntWalk.i64_in _ (by omega))) rfl ?_ -- t31
      refine WH.say (t := 31) (v' := .int .i64 ((wts (fs.take (j + 1)) : Nat) : Int)) rfl (by (refine congrArg _ ?_; omega)) ?_
      refine WH.y (Yl.assign rfl) rfl ?_ -- t3
      refine WH.nil ?_
      refine WC.region ?_
      refine WL.y (Yl.move rfl) rfl ?_ -- t13
      refine WL.y (Yl.add rfl rfl (IntWalk.i64_in _ (by omega))) rfl ?_ -- t14
      refine WL.y (Yl.assign rfl) rfl ?_ -- t4
      refine WL.nil ?_
      exact ⟨rfl, j + 1, ⟨by omega, by rw [Nat.add_sub_cancel]; omega⟩, by omega, (by repeat (first | exact Sub.nil | refine Sub.cons rfl ?_)), _, (by repeat (first | exact TakeL.nil | (apply TakeL.cons; · repeat (first | exact Take1.head | apply Take1.tail))))⟩
    · refine WC.exit ?_
      refine WC.seq ?_
      refine WC.region ?_
      refine WL.y (Yl.move rfl) rfl ?_ -- t32
      refine WL.y (Yl.gtr rfl rfl) rfl ?_ -- t33
      refine WL.y (Yl.assign rfl) rfl ?_ -- t2
      refine WL.nil ?_
      refine WC.ret ?_
      repeat (first | (with_reducible refine peelT ?_) | (with_reducible refine peelB ?_) | (with_reducible refine peelTX ?_) | (with_reducible refine peelBX ?_) | (with_reducible refine peelBN ?_) | (with_reducible refine peelBO rfl ?_))
      have h1 := wts_le fs j
      exact ret1 (.inr rfl) Try.results7 rfl fun w' h => ⟨(), trivial, by rw [decide_eq_true (by omega), decide_eq_true (by omega)], h.sub (by repeat (first | exact TakeL.nil | (apply TakeL.cons; · repeat (first | exact Take1.head | apply Take1.tail))))⟩
  · refine WL.off rfl rfl rfl rfl ?_ -- t10
    refine WL.off rfl rfl rfl rfl ?_ -- t11
    refine WL.y (Yl.pickF rfl rfl) rfl ?_ -- t12
    refine WL.nil ?_
    refine WC.condF rfl (by first | rfl | (simp; done) | (simp; omega)) ?_
    refine WC.exit ?_
    refine WC.seq ?_
    refine WC.region ?_
    refine WL.y (Yl.move rfl) rfl ?_ -- t32
    refine WL.y (Yl.gtr rfl rfl) rfl ?_ -- t33
    refine WL.y (Yl.assign rfl) rfl ?_ -- t2
    refine WL.nil ?_
    refine WC.ret ?_
    repeat (first | (with_reducible refine peelT ?_) | (with_reducible refine peelB ?_) | (with_reducible refine peelTX ?_) | (with_reducible refine peelBX ?_) | (with_reducible refine peelBN ?_) | (with_reducible refine peelBO rfl ?_))
    have hj2 : j = fs.length := by have := of_decide_eq_false g9; omega
    exact ret1 (.inr rfl) Try.results7 rfl fun w' h => ⟨(), trivial, by rw [hj2, List.take_length]; simp; omega, h.sub (by repeat (first | exact TakeL.nil | (apply TakeL.cons; · repeat (first | exact Take1.head | apply Take1.tail))))⟩

theorem lput_any (fs : List Fd) (v : Value) (b : Nat) (x : Option Addr × Nat) (lim : Int) (bs : List Int) (wr : Bool) (hok : ∀ f ∈ fs, f.ok) (hlo : -9223372036854775808 ≤ lim ∧ lim ≤ 9223372036854775807) (hf : Fit lim (bs, wr)) (hsz : bs.length + szs fs ≤ 140737488355328) (w : World)
    (hx : FdS w (fpL (oR b x lim bs wr)) v fs) (hw : OK w (fpL (oR b x lim bs wr)) (oR b x lim bs wr) w) :
    Fn Try.prog 9 [.pointer (some ⟨b, 0, none⟩), v] (oR b x lim bs wr) w (fun _ : Option Addr × Nat => True) (fun _ => .tuple #[]) (fun y => oR b y lim (puts lim (bs, wr) fs).1 (puts lim (bs, wr) fs).2) := by
  obtain ⟨al, cl, rfl, hcl, hml⟩ := hx.rows.rd.form
  unfold maxLen at hml
  refine enterF Try.func9 rfl Try.ntmps9 rfl hw ?_
  refine WC.seq ?_
  refine WC.region ?_
  refine WL.y (Yl.move rfl) rfl ?_ -- t6
  refine WL.y (Yl.len un22 rfl) rfl ?_ -- t7
  refine WL.y (Yl.move rfl) rfl ?_ -- t8
  refine WL.nil ?_
  refine WC.block ?_
  refine WC.loop (α := Nat × (Option Addr × Nat)) (fun p => [(0, .pointer (some ⟨b, 0, none⟩)), (6, .slice al fs.length cl), (7, .int .i64 (fs.length : Int)), (8, .int .i64 (p.1 : Int))]) (fun p => oR b p.2 lim (puts lim (bs, wr) (fs.take p.1)).1 (puts lim (bs, wr) (fs.take p.1)).2) (fun p => p.1 ≤ fs.length) (fun p => fs.length - p.1) (0, x) (Nat.zero_le _) ⟨(by repeat (first | exact Sub.nil | refine Sub.cons rfl ?_)), _, (by repeat (first | exact TakeL.nil | (apply TakeL.cons; · repeat (first | exact Take1.head | apply Take1.tail))))⟩ ?_
  rintro ⟨j, y⟩ hj
  dsimp only at hj ⊢
  refine WC.seq ?_
  refine WC.region ?_
  refine WL.y (Yl.lss rfl rfl) rfl ?_ -- t9
  refine WL.nil ?_
  refine WC.seq ?_
  refine WC.condD rfl (fun g9 => ?_) (fun g9 => ?_)
  · refine WC.skip ?_
    refine WC.seq ?_
    refine WC.block ?_
    refine WC.seq ?_
    refine WC.region ?_
    obtain ⟨f, hfj⟩ : ∃ f, fs[j]? = some f := ⟨_, List.getElem?_eq_getElem (by omega)⟩
    have hfm := List.mem_of_getElem? hfj
    have hfo := hok f hfm
    have hq := szs_take hfj
    have hq2 := puts_len (lim := lim) (fs.take j) (bs, wr)
    dsimp only at hq2
    have hq3 := puts_fit (fs.take j) hf
    have hq4 : puts lim (bs, wr) (fs.take (j + 1)) = putF lim (puts lim (bs, wr) (fs.take j)) f := by rw [← take_snoc _ _ _ hfj, puts_snoc]
    have hsf : szF f = 10 + f.b.length + 4 * f.l.length := rfl
    generalize puts lim (bs, wr) (fs.take j) = s at hq2 hq3 hq4 ⊢
    obtain ⟨sb, sw⟩ := s
    dsimp only at hq2 ⊢
    have hn := hfo.n
    refine WL.y (Yl.index un22 sz54 rfl rfl (Reads.s hx.rows) rfl (by omega)) rfl ?_ -- t10
    refine WL.y (Yl.loadV (j := j) (u := f) fdV fdAll rfl (Reads.s hx.rows) rfl hfj) rfl ?_
    refine WL.to (To.alloc (cs := [.int .u8 0, .int .u64 0, .slice none 0 0, .slice none 0 0, .int .i64 0]) zr54 rfl) rfl ?_ -- t5
    intro b5
    refine WL.sto (Sto.agg sz54 rfl rfl (by repeat (first | exact Take1.head | apply Take1.tail)) f.ones rfl (by rfl) (by rfl)) (fun _ h => nomatch h) ?_ -- st 1
    refine WL.nil ?_
    refine WC.seq ?_
    refine WC.region ?_
    refine WL.y (Yl.field fo54_0 rfl) rfl ?_ -- t12
    refine WL.y (Yl.load on5 rfl (by repeat (first | exact Take1.head | apply Take1.tail)) (by rfl)) rfl ?_ -- t13
    refine WL.nil ?_
    refine WC.block ?_
    refine WC.seq ?_
    refine WC.region ?_
    refine WL.y (Yl.eql rfl rfl) rfl ?_ -- t15
    refine WL.y (Yl.assign rfl) rfl ?_ -- t14
    refine WL.nil ?_
    refine WC.condD rfl (fun g14 => ?_) (fun g14 => ?_)
    · refine WC.region ?_
      refine WL.y (Yl.move rfl) rfl ?_ -- t16
      refine WL.y (Yl.field fo54_1 rfl) rfl ?_ -- t17
      refine WL.y (Yl.load on51 rfl (by repeat (first | exact Take1.head | apply Take1.tail)) (by rfl)) rfl ?_ -- t18
      refine WL.y (Yl.conv un51 un5 rfl (show IntKind.u8.wrap f.n = f.n % 256 by rw [IntKind.wrap_u8])) rfl ?_ -- t19
      refine WL.to (To.buildSlice (vs := [.int .u8 (f.n % 256)]) un28 zs5 rfl rfl (by simp [Value.cells]) (by decide) (by decide)) rfl ?_ -- t20
      intro b20
      refine WL.callC (xs := [.tmp 16, .tmp 20]) (cap := []) rfl rfl en18 (by repeat (first | exact TakeL.nil | (apply TakeL.cons; · repeat (first | exact Take1.head | apply Take1.tail)))) (fun w hw => outU8_any b y lim sb sw [f.n % 256] (.slice (some ⟨b20, 0, none⟩) 1 1) hlo hq3 (by simp; omega) w (hw.src (RdOf.blk (cs := [.int .u8 (f.n % 256)]) (Nat.le_refl _) (by unfold maxLen; omega) (by simp) rfl) (by repeat (first | exact Take1.head | apply Take1.tail))) hw.left.here) rfl ?_ -- t21 (*hailer/wire.Out).U8
      intro y2 _
      refine WL.nil ?_
      refine WC.region ?_
      refine WL.y (Yl.add rfl rfl (IntWalk.i64_in _ (by omega))) rfl ?_ -- t68
      refine WL.y (Yl.move rfl) rfl ?_ -- t8
      refine WL.nil ?_
      refine ⟨rfl, (j + 1, y2), by dsimp only; omega, by dsimp only; omega, (by repeat (first | exact Sub.nil | refine Sub.cons rfl ?_)), _, (by dsimp only; rw [hq4]; simp only [putF, *, if_true, if_false]; exact (by repeat (first | exact TakeL.nil | (apply TakeL.cons; · repeat (first | exact Take1.head | apply Take1.tail)))))⟩
    · refine WC.seq ?_
      refine WC.region ?_
      refine WL.y (Yl.eql rfl rfl) rfl ?_ -- t23
      refine WL.y (Yl.assign rfl) rfl ?_ -- t22
      refine WL.nil ?_
      refine WC.condD rfl (fun g22 => ?_) (fun g22 => ?_)
      · refine WC.region ?_
        refine WL.y (Yl.move rfl) rfl ?_ -- t24
        refine WL.y (Yl.field fo54_1 rfl) rfl ?_ -- t25
        refine WL.y (Yl.load on51 rfl (by repeat (first | exact Take1.head | apply Take1.tail)) (by rfl)) rfl ?_ -- t26
        refine WL.y (Yl.conv un51 un49 rfl (show IntKind.u32.wrap f.n = f.n % 4294967296 by rw [IntKind.wrap_u32])) rfl ?_ -- t27
        refine WL.to (To.buildSlice (vs := [.int .u32 (f.n % 4294967296)]) un52 zs49 rfl rfl (by simp [Value.cells]) (by decide) (by decide)) rfl ?_ -- t28
        intro b28
        refine WL.callC (xs := [.tmp 24, .tmp 28]) (cap := []) rfl rfl en19 (by repeat (first | exact TakeL.nil | (apply TakeL.cons; · repeat (first | exact Take1.head | apply Take1.tail)))) (fun w hw => outU32_any b y lim sb sw [f.n % 4294967296] (.slice (some ⟨b28, 0, none⟩) 1 1) hlo hq3 (by rw [total_b4]; simp; omega) (by intro x hx; simp at hx; omega) w (hw.src (RdOf.blk (cs := [.int .u32 (f.n % 4294967296)]) (Nat.le_refl _) (by unfold maxLen; omega) (by simp) rfl) (by repeat (first | exact Take1.head | apply Take1.tail))) hw.left.here) rfl ?_ -- t29 (*hailer/wire.Out).U32
        intro y2 _
        refine WL.nil ?_
        refine WC.region ?_
        refine WL.y (Yl.add rfl rfl (IntWalk.i64_in _ (by omega))) rfl ?_ -- t68
        refine WL.y (Yl.move rfl) rfl ?_ -- t8
        refine WL.nil ?_
        refine ⟨rfl, (j + 1, y2), by dsimp only; omega, by dsimp only; omega, (by repeat (first | exact Sub.nil | refine Sub.cons rfl ?_)), _, (by dsimp only; rw [hq4]; simp only [putF, *, if_true, if_false]; exact (by repeat (first | exact TakeL.nil | (apply TakeL.cons; · repeat (first | exact Take1.head | apply Take1.tail)))))⟩
      · refine WC.seq ?_
        refine WC.region ?_
        refine WL.y (Yl.eql rfl rfl) rfl ?_ -- t31
        refine WL.y (Yl.assign rfl) rfl ?_ -- t30
        refine WL.nil ?_
        refine WC.condD rfl (fun g30 => ?_) (fun g30 => ?_)
        · refine WC.region ?_
          refine WL.y (Yl.move rfl) rfl ?_ -- t32
          refine WL.y (Yl.field fo54_1 rfl) rfl ?_ -- t33
          refine WL.y (Yl.load on51 rfl (by repeat (first | exact Take1.head | apply Take1.tail)) (by rfl)) rfl ?_ -- t34
          refine WL.to (To.buildSlice (vs := [.int .u64 f.n]) un82 zs51 rfl rfl (by simp [Value.cells]) (by decide) (by decide)) rfl ?_ -- t35
          intro b35
          refine WL.callC (xs := [.tmp 32, .tmp 35]) (cap := []) rfl rfl en24 (by repeat (first | exact TakeL.nil | (apply TakeL.cons; · repeat (first | exact Take1.head | apply Take1.tail)))) (fun w hw => outU64_any b y lim sb sw [f.n] (.slice (some ⟨b35, 0, none⟩) 1 1) hlo hq3 (by simp [b8, total, be_len]; omega) (by intro x hx; simp at hx; omega) w (hw.src (RdOf.blk (cs := [.int .u64 f.n]) (Nat.le_refl _) (by unfold maxLen; omega) (by simp) rfl) (by repeat (first | exact Take1.head | apply Take1.tail))) hw.left.here) rfl ?_ -- t36 (*hailer/wire.Out).U64
          intro y2 _
          refine WL.nil ?_
          refine WC.region ?_
          refine WL.y (Yl.add rfl rfl (IntWalk.i64_in _ (by omega))) rfl ?_ -- t68
          refine WL.y (Yl.move rfl) rfl ?_ -- t8
          refine WL.nil ?_
          refine ⟨rfl, (j + 1, y2), by dsimp only; omega, by dsimp only; omega, (by repeat (first | exact Sub.nil | refine Sub.cons rfl ?_)), _, (by dsimp only; rw [hq4]; simp only [putF, *, if_true, if_false]; exact (by repeat (first | exact TakeL.nil | (apply TakeL.cons; · repeat (first | exact Take1.head | apply Take1.tail)))))⟩
        · refine WC.seq ?_
          refine WC.region ?_
          refine WL.y (Yl.eql rfl rfl) rfl ?_ -- t38
          refine WL.y (Yl.assign rfl) rfl ?_ -- t37
          refine WL.nil ?_
          refine WC.condD rfl (fun g37 => ?_) (fun g37 => ?_)
          · refine WC.region ?_
            refine WL.y (Yl.move rfl) rfl ?_ -- t39
            refine WL.y (Yl.field fo54_1 rfl) rfl ?_ -- t40
            refine WL.y (Yl.load on51 rfl (by repeat (first | exact Take1.head | apply Take1.tail)) (by rfl)) rfl ?_ -- t41
            refine WL.y (Yl.neq rfl rfl) rfl ?_ -- t42
            refine WL.to (To.buildSlice (vs := [.bool (decide (f.n ≠ 0))]) un84 zs4 rfl rfl (by simp [Value.cells]) (by decide) (by decide)) rfl ?_ -- t43
            intro b43
            refine WL.callC (xs := [.tmp 39, .tmp 43]) (cap := []) rfl rfl en25 (by repeat (first | exact TakeL.nil | (apply TakeL.cons; · repeat (first | exact Take1.head | apply Take1.tail)))) (fun w hw => outFlag_any b y lim sb sw [decide (f.n ≠ 0)] (.slice (some ⟨b43, 0, none⟩) 1 1) hlo hq3 (by simp [flagB, total]; omega) w (hw.src (RdOf.blk (cs := [.bool (decide (f.n ≠ 0))]) (Nat.le_refl _) (by unfold maxLen; omega) (by simp) rfl) (by repeat (first | exact Take1.head | apply Take1.tail))) hw.left.here) rfl ?_ -- t44 (*hailer/wire.Out).Flag
            intro y2 _
            refine WL.nil ?_
            refine WC.region ?_
            refine WL.y (Yl.add rfl rfl (IntWalk.i64_in _ (by omega))) rfl ?_ -- t68
            refine WL.y (Yl.move rfl) rfl ?_ -- t8
            refine WL.nil ?_
            refine ⟨rfl, (j + 1, y2), by dsimp only; omega, by dsimp only; omega, (by repeat (first | exact Sub.nil | refine Sub.cons rfl ?_)), _, (by dsimp only; rw [hq4]; simp only [putF, *, if_true, if_false]; exact (by repeat (first | exact TakeL.nil | (apply TakeL.cons; · repeat (first | exact Take1.head | apply Take1.tail)))))⟩
          · refine WC.seq ?_
            refine WC.region ?_
            refine WL.y (Yl.eql rfl rfl) rfl ?_ -- t46
            refine WL.y (Yl.assign rfl) rfl ?_ -- t45
            refine WL.nil ?_
            refine WC.condD rfl (fun g45 => ?_) (fun g45 => ?_)
            · refine WC.region ?_
              refine WL.y (Yl.move rfl) rfl ?_ -- t47
              refine WL.y (Yl.field fo54_2 rfl) rfl ?_ -- t48
              refine WL.y (Yl.load on28 rfl (by repeat (first | exact Take1.head | apply Take1.tail)) (by rfl)) rfl ?_ -- t49
              refine WL.to (To.buildSlice (vs := [.slice f.ba f.b.length f.bc]) un85 zs28 rfl rfl (by simp [Value.cells]) (by decide) (by decide)) rfl ?_ -- t50
              intro b50
              refine WL.callC (xs := [.tmp 47, .tmp 50]) (cap := []) rfl rfl en26 (by repeat (first | exact TakeL.nil | (apply TakeL.cons; · repeat (first | exact Take1.head | apply Take1.tail)))) (fun w hw => outFixed_any b y lim sb sw [f.b] [.slice f.ba f.b.length f.bc] (.slice (some ⟨b50, 0, none⟩) 1 1) rfl hlo hq3 (by simp [total]; omega) w (hw.src (RdOf.blk (cs := [.slice f.ba f.b.length f.bc]) (Nat.le_refl _) (by unfold maxLen; omega) (by simp) rfl) (by repeat (first | exact Take1.head | apply Take1.tail))) (fixedOne (hw.srcS (hx.b f hfm))) hw.left.here) rfl ?_ -- t51 (*hailer/wire.Out).Fixed
              intro y2 _
              refine WL.nil ?_
              refine WC.region ?_
              refine WL.y (Yl.add rfl rfl (IntWalk.i64_in _ (by omega))) rfl ?_ -- t68
              refine WL.y (Yl.move rfl) rfl ?_ -- t8
              refine WL.nil ?_
              refine ⟨rfl, (j + 1, y2), by dsimp only; omega, by dsimp only; omega, (by repeat (first | exact Sub.nil | refine Sub.cons rfl ?_)), _, (by dsimp only; rw [hq4]; simp only [putF, *, if_true, if_false]; exact (by repeat (first | exact TakeL.nil | (apply TakeL.cons; · repeat (first | exact Take1.head | apply Take1.tail)))))⟩
            · refine WC.seq ?_
              refine WC.region ?_
              refine WL.y (Yl.eql rfl rfl) rfl ?_ -- t53
              refine WL.y (Yl.assign rfl) rfl ?_ -- t52
              refine WL.nil ?_
              refine WC.condD rfl (fun g52 => ?_) (fun g52 => ?_)
              · refine WC.region ?_
                refine WL.y (Yl.move rfl) rfl ?_ -- t54
                refine WL.y (Yl.field fo54_4 rfl) rfl ?_ -- t55
                refine WL.y (Yl.load on3 rfl (by repeat (first | exact Take1.head | apply Take1.tail)) (by rfl)) rfl ?_ -- t56
                refine WL.y (Yl.field fo54_2 rfl) rfl ?_ -- t57
                refine WL.y (Yl.load on28 rfl (by repeat (first | exact Take1.head | apply Take1.tail)) (by rfl)) rfl ?_ -- t58
                refine WL.callC (xs := [.tmp 54, .tmp 56, .tmp 58]) (cap := []) rfl rfl en20 (by repeat (first | exact TakeL.nil | (apply TakeL.cons; · repeat (first | exact Take1.head | apply Take1.tail)))) (fun w hw => outSized_any b y lim sb sw f.most f.b (.slice f.ba f.b.length f.bc) hlo hq3 (by omega) w (hw.srcS (hx.b f hfm)) hw.left.here) rfl ?_ -- t59 (*hailer/wire.Out).Sized
                intro y2 _
                refine WL.nil ?_
                refine WC.region ?_
                refine WL.y (Yl.add rfl rfl (IntWalk.i64_in _ (by omega))) rfl ?_ -- t68
                refine WL.y (Yl.move rfl) rfl ?_ -- t8
                refine WL.nil ?_
                refine ⟨rfl, (j + 1, y2), by dsimp only; omega, by dsimp only; omega, (by repeat (first | exact Sub.nil | refine Sub.cons rfl ?_)), _, (by dsimp only; rw [hq4]; simp only [putF, *, if_true, if_false]; exact (by repeat (first | exact TakeL.nil | (apply TakeL.cons; · repeat (first | exact Take1.head | apply Take1.tail)))))⟩
              · refine WC.seq ?_
                refine WC.region ?_
                refine WL.y (Yl.eql rfl rfl) rfl ?_ -- t61
                refine WL.y (Yl.assign rfl) rfl ?_ -- t60
                refine WL.nil ?_
                refine WC.condD rfl (fun g60 => ?_) (fun g60 => ?_)
                · refine WC.region ?_
                  refine WL.y (Yl.move rfl) rfl ?_ -- t62
                  refine WL.y (Yl.field fo54_4 rfl) rfl ?_ -- t63
                  refine WL.y (Yl.load on3 rfl (by repeat (first | exact Take1.head | apply Take1.tail)) (by rfl)) rfl ?_ -- t64
                  refine WL.y (Yl.field fo54_3 rfl) rfl ?_ -- t65
                  refine WL.y (Yl.load on52 rfl (by repeat (first | exact Take1.head | apply Take1.tail)) (by rfl)) rfl ?_ -- t66
                  refine WL.callC (xs := [.tmp 62, .tmp 64, .tmp 66, .func 28]) (cap := []) rfl rfl en27 (by repeat (first | exact TakeL.nil | (apply TakeL.cons; · repeat (first | exact Take1.head | apply Take1.tail)))) (fun w hw => putList_any b y lim sb sw f.most f.l (.slice f.la f.l.length f.lc) hlo hq3 (by omega) hfo.l w (hw.srcS (hx.l f hfm)) hw.left.here) rfl ?_ -- t67 hailer/wire.PutList[uint32]
                  intro y2 _
                  refine WL.nil ?_
                  refine WC.region ?_
                  refine WL.y (Yl.add rfl rfl (IntWalk.i64_in _ (by omega))) rfl ?_ -- t68
                  refine WL.y (Yl.move rfl) rfl ?_ -- t8
                  refine WL.nil ?_
                  refine ⟨rfl, (j + 1, y2), by dsimp only; omega, by dsimp only; omega, (by repeat (first | exact Sub.nil | refine Sub.cons rfl ?_)), _, (by dsimp only; rw [hq4]; simp only [putF, *, if_true, if_false]; exact (by repeat (first | exact TakeL.nil | (apply TakeL.cons; · repeat (first | exact Take1.head | apply Take1.tail)))))⟩
                · refine WC.skip ?_
                  refine WC.region ?_
                  refine WL.y (Yl.add rfl rfl (IntWalk.i64_in _ (by omega))) rfl ?_ -- t68
                  refine WL.y (Yl.move rfl) rfl ?_ -- t8
                  refine WL.nil ?_
                  refine ⟨rfl, (j + 1, y), by dsimp only; omega, by dsimp only; omega, (by repeat (first | exact Sub.nil | refine Sub.cons rfl ?_)), _, (by dsimp only; rw [hq4]; simp only [putF, *, if_true, if_false]; exact (by repeat (first | exact TakeL.nil | (apply TakeL.cons; · repeat (first | exact Take1.head | apply Take1.tail)))))⟩
  · refine WC.exit ?_
    repeat (first | (with_reducible refine peelT ?_) | (with_reducible refine peelB ?_) | (with_reducible refine peelTX ?_) | (with_reducible refine peelBX ?_) | (with_reducible refine peelBN ?_) | (with_reducible refine peelBO rfl ?_))
    have hj2 : j = fs.length := by omega
    exact ret0 (.inl rfl) Try.results9 fun w' h => ⟨y, trivial, rfl, by rw [hj2, List.take_length] at h; exact h.sub (by repeat (first | exact TakeL.nil | (apply TakeL.cons; · repeat (first | exact Take1.head | apply Take1.tail))))⟩
end Go.Proofs.Ytahkaepmfnmhcaa
