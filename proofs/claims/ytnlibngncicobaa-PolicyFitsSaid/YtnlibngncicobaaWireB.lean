/- What is put: the walks. -/
import Derived.Test.YtnlibngncicobaaWireA
namespace Go.Proofs.Ytnlibngncicobaa
open Go Go.RowKit
abbrev outR (b : Nat) (v : Value) (lim : Int) (wr : Bool) : Res := blkR b 121 [v, .int .i64 lim, .bool wr]
abbrev oR (b : Nat) (x : Option Addr × Nat) (lim : Int) (bs : List Int) (wr : Bool) : List Res := [outR b (.slice x.1 bs.length x.2) lim wr, ownR (.slice x.1 bs.length x.2) 5 1 bs.length (ints .u8 bs)]

theorem newOut_any (lim : Int) (w : World) (hw : OK w (fpL []) [] w) :
    Fn Try.prog 49 [.int .i64 lim] [] w (fun _ : Nat => True) (fun b => .pointer (some ⟨b, 0, none⟩)) (fun b => oR b (none, 0) lim [] false) := by
  refine enterF Try.func49 rfl Try.ntmps49 rfl hw ?_
  refine WC.seq ?_
  refine WC.region ?_
  refine WL.y (Yl.assign rfl) rfl ?_ -- t2
  refine WL.nil ?_
  refine WC.seq ?_
  refine WC.region ?_
  refine WL.y (Yl.move rfl) rfl ?_ -- t3
  refine WL.y (Yl.build rfl (cs := [.slice none 0 0, .int .i64 lim, .bool false]) (fun _ => by kernel_rfl)) rfl ?_ -- t4
  refine WL.to (To.box rfl rfl) rfl ?_ -- t5
  intro b5
  refine WL.y (Yl.assign rfl) rfl ?_ -- t2
  refine WL.nil ?_
  refine WC.ret ?_
  repeat (first | (with_reducible refine peelT ?_) | (with_reducible refine peelB ?_) | (with_reducible refine peelTX ?_) | (with_reducible refine peelBX ?_) | (with_reducible refine peelBN ?_) | (with_reducible refine peelBO rfl ?_))
  exact ret1 (.inr rfl) Try.results49 rfl fun w' h => ⟨b5, trivial, rfl, (h.addNil 5 1).sub (by repeat (first | exact TakeL.nil | (apply TakeL.cons; · repeat (first | exact Take1.head | apply Take1.tail))))⟩

theorem put_any (b : Nat) (x : Option Addr × Nat) (lim : Int) (bs : List Int) (wr : Bool) (xs : List Int) (xv : Value) (hlo : -9223372036854775808 ≤ lim ∧ lim ≤ 9223372036854775807) (hf : Fit lim (bs, wr)) (hsz : bs.length + xs.length ≤ 140737488355328) (w : World)
    (hx : RdS w (fpL (oR b x lim bs wr)) xv 1 xs.length (ints .u8 xs)) (hw : OK w (fpL (oR b x lim bs wr)) (oR b x lim bs wr) w) :
    Fn Try.prog 68 [.pointer (some ⟨b, 0, none⟩), xv] (oR b x lim bs wr) w (fun _ : Option Addr × Nat => True) (fun _ => .tuple #[]) (fun y => oR b y lim (pt lim (bs, wr) xs).1 (pt lim (bs, wr) xs).2) := by
  obtain ⟨ax, cx, rfl, hcx, hmx⟩ := hx.rd.form
  replace hf : bs.length = 0 ∨ (bs.length : Int) ≤ lim := hf
  refine enterF Try.func68 rfl Try.ntmps68 rfl hw ?_
  refine WC.seq ?_
  refine WC.seq ?_
  refine WC.region ?_
  refine WL.y (Yl.move rfl) rfl ?_ -- t4
  refine WL.y (Yl.nilEq un99 rfl rfl) rfl ?_ -- t5
  refine WL.know (t := 5) (b' := false) rfl (by first | rfl | (simp; done) | (simp; omega)) ?_
  refine WL.y (Yl.move rfl) rfl ?_ -- t6
  refine WL.on rfl rfl ?_
  refine WL.y (Yl.move rfl) rfl ?_ -- t7
  refine WL.on rfl rfl ?_
  refine WL.y (Yl.nilCheck rfl) rfl ?_ -- t8
  refine WL.on rfl rfl ?_
  refine WL.y (Yl.field fo121_2 rfl) rfl ?_ -- t9
  refine WL.on rfl rfl ?_
  refine WL.y (Yl.load on4 rfl (by repeat (first | exact Take1.head | apply Take1.tail)) (by rfl)) rfl ?_ -- t10
  refine WL.y (Yl.pickF rfl rfl) rfl ?_ -- t11
  refine WL.nil ?_
  refine WC.cond rfl (fun g11 => ?_) (fun g11 => ?_)
  · refine WC.ret ?_
    repeat (first | (with_reducible refine peelT ?_) | (with_reducible refine peelB ?_) | (with_reducible refine peelTX ?_) | (with_reducible refine peelBX ?_) | (with_reducible refine peelBN ?_) | (with_reducible refine peelBO rfl ?_))
    subst g11
    exact ret0 (.inr rfl) rfl fun w' h => ⟨x, trivial, rfl, by rw [pt_no (by simp)]; exact h.sub (by repeat (first | exact TakeL.nil | (apply TakeL.cons; · repeat (first | exact Take1.head | apply Take1.tail))))⟩
  · refine WC.skip ?_
    refine WC.seq ?_
    refine WC.drawTail 14 mixed (by kernel_rfl) ?_
    refine WH.y (Yl.move rfl) rfl ?_ -- t12
    refine WH.y (Yl.move rfl) rfl ?_ -- t13
    refine WH.y (Yl.len un55 rfl) rfl ?_ -- t14
    refine WH.y (Yl.move rfl) rfl ?_ -- t15
    refine WH.y (Yl.nilCheck rfl) rfl ?_ -- t16
    refine WH.y (Yl.field fo121_1 rfl) rfl ?_ -- t17
    refine WH.y (Yl.load on3 rfl (by repeat (first | exact Take1.head | apply Take1.tail)) (by rfl)) rfl ?_ -- t18
    refine WH.y (Yl.move rfl) rfl ?_ -- t19
    refine WH.y (Yl.nilCheck rfl) rfl ?_ -- t20
    refine WH.y (Yl.field fo121_0 rfl) rfl ?_ -- t21
    refine WH.y (Yl.load on55 rfl (by repeat (first | exact Take1.head | apply Take1.tail)) (by rfl)) rfl ?_ -- t22
    refine WH.y (Yl.len un55 rfl) rfl ?_ -- t23
    refine WH.y (Yl.sub rfl rfl (IntWalk.i64_in _ (by omega))) rfl ?_ -- t24
    refine WH.y (Yl.gtr rfl rfl) rfl ?_ -- t25
    refine WH.say (t := 25) (v' := .bool (wr || decide (lim - bs.length < xs.length))) rfl (by rw [g11]; simp) ?_
    refine WH.nil ?_
    refine WP.y (Yl.nilCheck rfl) rfl ?_ -- t26
    refine WP.y (Yl.field fo121_2 rfl) rfl ?_ -- t27
    refine WP.sto (Sto.one sz4 rfl rfl (by repeat (first | exact Take1.head | apply Take1.tail)) rfl (by rfl) (by rfl)) (fun _ h => nomatch h) ?_ -- st 1
    refine WP.nil ?_
    refine WC.seq ?_
    refine WC.region ?_
    refine WL.y (Yl.move rfl) rfl ?_ -- t28
    refine WL.y (Yl.nilCheck rfl) rfl ?_ -- t29
    refine WL.y (Yl.field fo121_2 rfl) rfl ?_ -- t30
    refine WL.y (Yl.load on4 rfl (by repeat (first | exact Take1.head | apply Take1.tail)) (by rfl)) rfl ?_ -- t31
    refine WL.y (Yl.not rfl) rfl ?_ -- t32
    refine WL.nil ?_
    refine WC.cond rfl (fun g32 => ?_) (fun g32 => ?_)
    · refine WC.region ?_
      refine WL.y (Yl.move rfl) rfl ?_ -- t33
      refine WL.y (Yl.move rfl) rfl ?_ -- t34
      refine WL.y (Yl.nilCheck rfl) rfl ?_ -- t35
      refine WL.y (Yl.field fo121_0 rfl) rfl ?_ -- t36
      refine WL.y (Yl.load on55 rfl (by repeat (first | exact Take1.head | apply Take1.tail)) (by rfl)) rfl ?_ -- t37
      refine WL.y (Yl.move rfl) rfl ?_ -- t38
      refine WL.to (To.append sl55 rfl rfl (by repeat (first | exact Take1.head | apply Take1.tail)) (Reads.s hx) (ints_one _ _) (N := (bs ++ xs).length) List.length_append.symm (ints_append _ _ _) (by rw [List.length_append]; unfold maxLen; omega) (by rw [List.length_append]; omega)) rfl ?_ -- t39
      rintro ⟨⟨ao39, c39⟩, hc39⟩
      dsimp only at hc39 ⊢
      refine WL.y (Yl.nilCheck rfl) rfl ?_ -- t40
      refine WL.y (Yl.field fo121_0 rfl) rfl ?_ -- t41
      refine WL.sto (Sto.one sz55 rfl rfl (by repeat (first | exact Take1.head | apply Take1.tail)) rfl (by rfl) (by rfl)) (fun _ h => nomatch h) ?_ -- st 2
      refine WL.nil ?_
      repeat (first | (with_reducible refine peelT ?_) | (with_reducible refine peelB ?_) | (with_reducible refine peelTX ?_) | (with_reducible refine peelBX ?_) | (with_reducible refine peelBN ?_) | (with_reducible refine peelBO rfl ?_))
      have e : (wr || decide (lim - (bs.length : Int) < xs.length)) = false := by
        generalize (wr || decide (lim - (bs.length : Int) < xs.length)) = q at g32
        simpa using g32
      exact ret0 (.inl rfl) rfl fun w' h => ⟨(ao39, c39), trivial, rfl, by rw [pt_yes e]; rw [e] at h; exact h.sub (by repeat (first | exact TakeL.nil | (apply TakeL.cons; · repeat (first | exact Take1.head | apply Take1.tail))))⟩
    · refine WC.skip ?_
      repeat (first | (with_reducible refine peelT ?_) | (with_reducible refine peelB ?_) | (with_reducible refine peelTX ?_) | (with_reducible refine peelBX ?_) | (with_reducible refine peelBN ?_) | (with_reducible refine peelBO rfl ?_))
      have e : (wr || decide (lim - (bs.length : Int) < xs.length)) = true := by
        generalize (wr || decide (lim - (bs.length : Int) < xs.length)) = q at g32
        simpa using g32
      exact ret0 (.inl rfl) rfl fun w' h => ⟨x, trivial, rfl, by rw [pt_no e]; rw [e] at h; exact h.sub (by repeat (first | exact TakeL.nil | (apply TakeL.cons; · repeat (first | exact Take1.head | apply Take1.tail))))⟩

theorem outU8_any (b : Nat) (x : Option Addr × Nat) (lim : Int) (bs : List Int) (wr : Bool) (xs : List Int) (xv : Value) (hlo : -9223372036854775808 ≤ lim ∧ lim ≤ 9223372036854775807) (hf : Fit lim (bs, wr)) (hsz : bs.length + xs.length ≤ 140737488355328) (w : World)
    (hx : RdS w (fpL (oR b x lim bs wr)) xv 1 xs.length (ints .u8 xs)) (hw : OK w (fpL (oR b x lim bs wr)) (oR b x lim bs wr) w) :
    Fn Try.prog 50 [.pointer (some ⟨b, 0, none⟩), xv] (oR b x lim bs wr) w (fun _ : Option Addr × Nat => True) (fun _ => .tuple #[]) (fun y => oR b y lim (pt lim (bs, wr) xs).1 (pt lim (bs, wr) xs).2) := by
  refine enterF Try.func50 rfl Try.ntmps50 rfl hw ?_
  refine WC.region ?_
  refine WL.y (Yl.move rfl) rfl ?_ -- t4
  refine WL.y (Yl.move rfl) rfl ?_ -- t5
  refine WL.callC (xs := [.tmp 4, .tmp 5]) (cap := []) rfl rfl en68 (by repeat (first | exact TakeL.nil | (apply TakeL.cons; · repeat (first | exact Take1.head | apply Take1.tail)))) (fun w hw => put_any b x lim bs wr xs xv hlo hf hsz w (hw.srcS hx) hw.left.here) rfl ?_ -- t6 (*hailer/wire.Out).put
  intro y _
  refine WL.nil ?_
  repeat (first | (with_reducible refine peelT ?_) | (with_reducible refine peelB ?_) | (with_reducible refine peelTX ?_) | (with_reducible refine peelBX ?_) | (with_reducible refine peelBN ?_) | (with_reducible refine peelBO rfl ?_))
  exact ret0 (.inl rfl) rfl fun w' h => ⟨y, trivial, rfl, h.sub (by repeat (first | exact TakeL.nil | (apply TakeL.cons; · repeat (first | exact Take1.head | apply Take1.tail))))⟩

def b8 (l : List Int) : List (List Int) := l.map (be · 8)

theorem outFlag_any (b : Nat) (x : Option Addr × Nat) (lim : Int) (bs : List Int) (wr : Bool) (l : List Bool) (lv : Value) (hlo : -9223372036854775808 ≤ lim ∧ lim ≤ 9223372036854775807) (hf : Fit lim (bs, wr)) (hsz : bs.length + total (l.map flagB) ≤ 140737488355328) (w : World)
    (hx : RdS w (fpL (oR b x lim bs wr)) lv 1 l.length (l.map Value.bool)) (hw : OK w (fpL (oR b x lim bs wr)) (oR b x lim bs wr) w) :
    Fn Try.prog 54 [.pointer (some ⟨b, 0, none⟩), lv] (oR b x lim bs wr) w (fun _ : Option Addr × Nat => True) (fun _ => .tuple #[]) (fun y => oR b y lim (pts lim (bs, wr) (l.map flagB)).1 (pts lim (bs, wr) (l.map flagB)).2) := by
  obtain ⟨al, cl, rfl, hcl, hml⟩ := hx.rd.form
  unfold maxLen at hml
  refine enterF Try.func54 rfl Try.ntmps54 rfl hw ?_
  refine WC.seq ?_
  refine WC.region ?_
  refine WL.y (Yl.move rfl) rfl ?_ -- t7
  refine WL.y (Yl.len un84 rfl) rfl ?_ -- t8
  refine WL.y (Yl.move rfl) rfl ?_ -- t9
  refine WL.nil ?_
  refine WC.block ?_
  refine WC.loop (α := Nat × (Option Addr × Nat)) (fun p => [(0, .pointer (some ⟨b, 0, none⟩)), (7, .slice al l.length cl), (8, .int .i64 (l.length : Int)), (9, .int .i64 (p.1 : Int))]) (fun p => oR b p.2 lim (pts lim (bs, wr) ((l.map flagB).take p.1)).1 (pts lim (bs, wr) ((l.map flagB).take p.1)).2) (fun p => p.1 ≤ l.length) (fun p => l.length - p.1) (0, x) (Nat.zero_le _) ⟨(by repeat (first | exact Sub.nil | refine Sub.cons rfl ?_)), _, (by repeat (first | exact TakeL.nil | (apply TakeL.cons; · repeat (first | exact Take1.head | apply Take1.tail))))⟩ ?_
  rintro ⟨j, y⟩ hj
  dsimp only at hj ⊢
  refine WC.seq ?_
  refine WC.region ?_
  refine WL.y (Yl.lss rfl rfl) rfl ?_ -- t10
  refine WL.nil ?_
  refine WC.seq ?_
  refine WC.condD rfl (fun g10 => ?_) (fun g10 => ?_)
  · refine WC.skip ?_
    refine WC.seq ?_
    refine WC.block ?_
    refine WC.seq ?_
    refine WC.region ?_
    have hjl : j < l.length := by omega
    have hfl : (l.map Value.bool)[j]? = some (.bool (l.getD j false)) := by simp [hjl]
    have hb : (l.map flagB)[j]? = some (flagB (l.getD j false)) := by simp [hjl]
    have hq := total_take hb
    rw [show (flagB (l.getD j false)).length = 1 from rfl] at hq
    have hq2 := pts_len (lim := lim) ((l.map flagB).take j) (bs, wr)
    dsimp only at hq2
    have hq3 := pts_fit ((l.map flagB).take j) hf
    have hq4 : pts lim (bs, wr) ((l.map flagB).take (j + 1)) = pt lim (pts lim (bs, wr) ((l.map flagB).take j)) (flagB (l.getD j false)) := by rw [← take_snoc _ _ _ hb, pts_snoc]
    generalize pts lim (bs, wr) ((l.map flagB).take j) = s at hq2 hq3 hq4 ⊢
    obtain ⟨sb, sw⟩ := s
    dsimp only at hq2 ⊢
    refine WL.y (Yl.index un84 sz4 rfl rfl (Reads.s hx) rfl (by omega)) rfl ?_ -- t11
    refine WL.y (Yl.loadE on4 rfl (Reads.s hx) hfl) rfl ?_ -- t12
    refine WL.y (Yl.assign rfl) rfl ?_ -- t5
    refine WL.nil ?_
    refine WC.seq ?_
    refine WC.region ?_
    refine WL.y (Yl.assign rfl) rfl ?_ -- t6
    refine WL.nil ?_
    refine WC.seq ?_
    refine WC.seq ?_
    refine WC.region ?_
    refine WL.y (Yl.move rfl) rfl ?_ -- t13
    refine WL.nil ?_
    refine WC.cond rfl (fun g13 => ?_) (fun g13 => ?_)
    · refine WC.region ?_
      refine WL.y (Yl.assign rfl) rfl ?_ -- t6
      refine WL.nil ?_
      refine WC.region ?_
      refine WL.y (Yl.move rfl) rfl ?_ -- t14
      refine WL.y (Yl.move rfl) rfl ?_ -- t15
      refine WL.to (To.buildSlice (vs := [.int .u8 1]) un55 zs5 rfl rfl (by simp [Value.cells]) (by decide) (by decide)) rfl ?_ -- t16
      intro b16
      refine WL.callC (xs := [.tmp 14, .tmp 16]) (cap := []) rfl rfl en68 (by repeat (first | exact TakeL.nil | (apply TakeL.cons; · repeat (first | exact Take1.head | apply Take1.tail)))) (fun w hw => put_any b y lim sb sw [1] (.slice (some ⟨b16, 0, none⟩) 1 1) hlo hq3 (by dsimp only [List.length]; omega) w (hw.src (RdOf.blk (cs := [.int .u8 1]) (Nat.le_refl _) (by unfold maxLen; omega) (by simp) rfl) (by repeat (first | exact Take1.head | apply Take1.tail))) hw.left.here) rfl ?_ -- t17 (*hailer/wire.Out).put
      intro y2 _
      refine WL.nil ?_
      refine WC.region ?_
      refine WL.y (Yl.add rfl rfl (IntWalk.i64_in _ (by omega))) rfl ?_ -- t18
      refine WL.y (Yl.move rfl) rfl ?_ -- t9
      refine WL.nil ?_
      refine ⟨rfl, (j + 1, y2), by dsimp only; omega, by dsimp only; omega, (by repeat (first | exact Sub.nil | refine Sub.cons rfl ?_)), _, (by dsimp only; rw [hq4, g13]; exact (by repeat (first | exact TakeL.nil | (apply TakeL.cons; · repeat (first | exact Take1.head | apply Take1.tail)))))⟩
    · refine WC.skip ?_
      refine WC.region ?_
      refine WL.y (Yl.move rfl) rfl ?_ -- t14
      refine WL.y (Yl.move rfl) rfl ?_ -- t15
      refine WL.to (To.buildSlice (vs := [.int .u8 0]) un55 zs5 rfl rfl (by simp [Value.cells]) (by decide) (by decide)) rfl ?_ -- t16
      intro b16
      refine WL.callC (xs := [.tmp 14, .tmp 16]) (cap := []) rfl rfl en68 (by repeat (first | exact TakeL.nil | (apply TakeL.cons; · repeat (first | exact Take1.head | apply Take1.tail)))) (fun w hw => put_any b y lim sb sw [0] (.slice (some ⟨b16, 0, none⟩) 1 1) hlo hq3 (by dsimp only [List.length]; omega) w (hw.src (RdOf.blk (cs := [.int .u8 0]) (Nat.le_refl _) (by unfold maxLen; omega) (by simp) rfl) (by repeat (first | exact Take1.head | apply Take1.tail))) hw.left.here) rfl ?_ -- t17 (*hailer/wire.Out).put
      intro y2 _
      refine WL.nil ?_
      refine WC.region ?_
      refine WL.y (Yl.add rfl rfl (IntWalk.i64_in _ (by omega))) rfl ?_ -- t18
      refine WL.y (Yl.move rfl) rfl ?_ -- t9
      refine WL.nil ?_
      refine ⟨rfl, (j + 1, y2), by dsimp only; omega, by dsimp only; omega, (by repeat (first | exact Sub.nil | refine Sub.cons rfl ?_)), _, (by dsimp only; rw [hq4, g13]; exact (by repeat (first | exact TakeL.nil | (apply TakeL.cons; · repeat (first | exact Take1.head | apply Take1.tail)))))⟩
  · refine WC.exit ?_
    repeat (first | (with_reducible refine peelT ?_) | (with_reducible refine peelB ?_) | (with_reducible refine peelTX ?_) | (with_reducible refine peelBX ?_) | (with_reducible refine peelBN ?_) | (with_reducible refine peelBO rfl ?_))
    have hj2 : j = (l.map flagB).length := by simp; omega
    exact ret0 (.inl rfl) rfl fun w' h => ⟨y, trivial, rfl, by rw [hj2, List.take_length] at h; exact h.sub (by repeat (first | exact TakeL.nil | (apply TakeL.cons; · repeat (first | exact Take1.head | apply Take1.tail))))⟩

theorem outBytes_ok (b : Nat) (x : Option Addr × Nat) (lim : Int) (bs : List Int) (hl0 : 0 ≤ lim) (hsz : bs.length ≤ 140737488355328) (w : World) (hw : OK w (fpL (oR b x lim bs false)) (oR b x lim bs false) w) :
    Fn Try.prog 55 [.pointer (some ⟨b, 0, none⟩)] (oR b x lim bs false) w (fun y : Option Addr × Nat => bs.length ≤ y.2) (fun y => .tuple #[.slice y.1 bs.length y.2, .int .i64 0]) (fun y => ownR (.slice y.1 bs.length y.2) 5 1 bs.length (ints .u8 bs) :: oR b x lim bs false) := by
  refine enterF Try.func55 rfl Try.ntmps55 rfl hw ?_
  refine WC.seq ?_
  refine WC.region ?_
  refine WL.y (Yl.assign rfl) rfl ?_ -- t2
  refine WL.y (Yl.assign rfl) rfl ?_ -- t3
  refine WL.nil ?_
  refine WC.seq ?_
  refine WC.block ?_
  refine WC.seq ?_
  refine WC.region ?_
  refine WL.y (Yl.move rfl) rfl ?_ -- t5
  refine WL.y (Yl.nilEq un99 rfl rfl) rfl ?_ -- t6
  refine WL.y (Yl.assign rfl) rfl ?_ -- t4
  refine WL.nil ?_
  refine WC.condF rfl (by first | rfl | (simp; done) | (simp; omega)) ?_
  refine WC.seq ?_
  refine WC.region ?_
  refine WL.y (Yl.move rfl) rfl ?_ -- t8
  refine WL.y (Yl.nilCheck rfl) rfl ?_ -- t9
  refine WL.y (Yl.field fo121_2 rfl) rfl ?_ -- t10
  refine WL.y (Yl.load on4 rfl (by repeat (first | exact Take1.head | apply Take1.tail)) (by rfl)) rfl ?_ -- t11
  refine WL.know (t := 11) (b' := false) rfl (by first | rfl | (simp; done) | (simp; omega)) ?_
  refine WL.y (Yl.move rfl) rfl ?_ -- t12
  refine WL.on rfl rfl ?_
  refine WL.y (Yl.move rfl) rfl ?_ -- t13
  refine WL.on rfl rfl ?_
  refine WL.y (Yl.nilCheck rfl) rfl ?_ -- t14
  refine WL.on rfl rfl ?_
  refine WL.y (Yl.field fo121_1 rfl) rfl ?_ -- t15
  refine WL.on rfl rfl ?_
  refine WL.y (Yl.load on3 rfl (by repeat (first | exact Take1.head | apply Take1.tail)) (by rfl)) rfl ?_ -- t16
  refine WL.on rfl rfl ?_
  refine WL.y (Yl.lss rfl rfl) rfl ?_ -- t17
  refine WL.know (t := 17) (b' := false) rfl (by first | rfl | (simp; done) | (simp; omega)) ?_
  refine WL.y (Yl.pickF rfl rfl) rfl ?_ -- t18
  refine WL.y (Yl.assign rfl) rfl ?_ -- t7
  refine WL.nil ?_
  refine WC.condF rfl (by first | rfl | (simp; done) | (simp; omega)) ?_
  refine WC.skip ?_
  refine WC.seq ?_
  refine WC.region ?_
  refine WL.to (To.buildSlice (vs := []) un55 zs5 rfl rfl (by simp [Value.cells]) (by decide) (by decide)) rfl ?_ -- t19
  intro b19
  refine WL.view (fun w h => h.blkOwn (b := b19) (size := 1) (n := 0) (by repeat (first | exact Take1.head | apply Take1.tail)) (by unfold maxLen; omega) rfl) ?_
  refine WL.y (Yl.move rfl) rfl ?_ -- t20
  refine WL.y (Yl.nilCheck rfl) rfl ?_ -- t21
  refine WL.y (Yl.field fo121_0 rfl) rfl ?_ -- t22
  refine WL.y (Yl.load on55 rfl (by repeat (first | exact Take1.head | apply Take1.tail)) (by rfl)) rfl ?_ -- t23
  refine WL.to (To.append sl55 rfl rfl (by repeat (first | exact Take1.head | apply Take1.tail)) (Reads.own (by repeat (first | exact Take1.head | apply Take1.tail))) (ints_one _ _) (Nat.zero_add _) (by rfl) (by unfold maxLen; omega) (by omega)) rfl ?_ -- t24
  rintro ⟨⟨ao24, c24⟩, hc24⟩
  dsimp only at hc24 ⊢
  refine WL.y (Yl.assign rfl) rfl ?_ -- t2
  refine WL.y (Yl.assign rfl) rfl ?_ -- t3
  refine WL.nil ?_
  refine WC.ret ?_
  repeat (first | (with_reducible refine peelT ?_) | (with_reducible refine peelB ?_) | (with_reducible refine peelTX ?_) | (with_reducible refine peelBX ?_) | (with_reducible refine peelBN ?_) | (with_reducible refine peelBO rfl ?_))
  exact ret2 (.inr rfl) Try.results55 rfl rfl fun w' h => ⟨(ao24, c24), hc24, rfl, h.sub (by repeat (first | exact TakeL.nil | (apply TakeL.cons; · repeat (first | exact Take1.head | apply Take1.tail))))⟩

theorem outBytes_bad (b : Nat) (x : Option Addr × Nat) (lim : Int) (bs : List Int) (wr : Bool) (hl0 : (wr || decide (lim < 0)) = true) (w : World) (hw : OK w (fpL (oR b x lim bs wr)) (oR b x lim bs wr) w) :
    Fn Try.prog 55 [.pointer (some ⟨b, 0, none⟩)] (oR b x lim bs wr) w (fun _ : Unit => True) (fun _ => .tuple #[.slice none 0 0, .int .i64 3]) (fun _ => oR b x lim bs wr) := by
  refine enterF Try.func55 rfl Try.ntmps55 rfl hw ?_
  refine WC.seq ?_
  refine WC.region ?_
  refine WL.y (Yl.assign rfl) rfl ?_ -- t2
  refine WL.y (Yl.assign rfl) rfl ?_ -- t3
  refine WL.nil ?_
  refine WC.seq ?_
  refine WC.block ?_
  refine WC.seq ?_
  refine WC.region ?_
  refine WL.y (Yl.move rfl) rfl ?_ -- t5
  refine WL.y (Yl.nilEq un99 rfl rfl) rfl ?_ -- t6
  refine WL.y (Yl.assign rfl) rfl ?_ -- t4
  refine WL.nil ?_
  refine WC.condF rfl (by first | rfl | (simp; done) | (simp; omega)) ?_
  refine WC.seq ?_
  refine WC.region ?_
  refine WL.y (Yl.move rfl) rfl ?_ -- t8
  refine WL.y (Yl.nilCheck rfl) rfl ?_ -- t9
  refine WL.y (Yl.field fo121_2 rfl) rfl ?_ -- t10
  refine WL.y (Yl.load on4 rfl (by repeat (first | exact Take1.head | apply Take1.tail)) (by rfl)) rfl ?_ -- t11
  refine WL.y (Yl.move rfl) rfl ?_ -- t12
  refine WL.both (t := 12) rfl (fun g12 => ?_) (fun g12 => ?_)
  · refine WL.off rfl rfl rfl rfl ?_ -- t13
    refine WL.off rfl rfl rfl rfl ?_ -- t14
    refine WL.off rfl rfl rfl rfl ?_ -- t15
    refine WL.off rfl rfl rfl rfl ?_ -- t16
    refine WL.off rfl rfl rfl rfl ?_ -- t17
    refine WL.y (Yl.pickT rfl rfl) rfl ?_ -- t18
    refine WL.say (t := 18) (v' := .bool true) rfl (by (simp [g12] at hl0 ⊢; try exact hl0)) ?_
    refine WL.y (Yl.assign rfl) rfl ?_ -- t7
    refine WL.nil ?_
    refine WC.condT rfl (by first | rfl | (simp; done) | (simp; omega)) ?_
    refine WC.seq ?_
    refine WC.region ?_
    refine WL.y (Yl.assign rfl) rfl ?_ -- t2
    refine WL.y (Yl.assign rfl) rfl ?_ -- t3
    refine WL.nil ?_
    refine WC.ret ?_
    repeat (first | (with_reducible refine peelT ?_) | (with_reducible refine peelB ?_) | (with_reducible refine peelTX ?_) | (with_reducible refine peelBX ?_) | (with_reducible refine peelBN ?_) | (with_reducible refine peelBO rfl ?_))
    exact ret2 (.inr rfl) Try.results55 rfl rfl fun w' h => ⟨(), trivial, rfl, h.sub (by repeat (first | exact TakeL.nil | (apply TakeL.cons; · repeat (first | exact Take1.head | apply Take1.tail))))⟩
  · refine WL.on rfl rfl ?_
    refine WL.y (Yl.move rfl) rfl ?_ -- t13
    refine WL.on rfl rfl ?_
    refine WL.y (Yl.nilCheck rfl) rfl ?_ -- t14
    refine WL.on rfl rfl ?_
    refine WL.y (Yl.field fo121_1 rfl) rfl ?_ -- t15
    refine WL.on rfl rfl ?_
    refine WL.y (Yl.load on3 rfl (by repeat (first | exact Take1.head | apply Take1.tail)) (by rfl)) rfl ?_ -- t16
    refine WL.on rfl rfl ?_
    refine WL.y (Yl.lss rfl rfl) rfl ?_ -- t17
    refine WL.y (Yl.pickF rfl rfl) rfl ?_ -- t18
    refine WL.say (t := 18) (v' := .bool true) rfl (by (simp [g12] at hl0 ⊢; try exact hl0)) ?_
    refine WL.y (Yl.assign rfl) rfl ?_ -- t7
    refine WL.nil ?_
    refine WC.condT rfl (by first | rfl | (simp; done) | (simp; omega)) ?_
    refine WC.seq ?_
    refine WC.region ?_
    refine WL.y (Yl.assign rfl) rfl ?_ -- t2
    refine WL.y (Yl.assign rfl) rfl ?_ -- t3
    refine WL.nil ?_
    refine WC.ret ?_
    repeat (first | (with_reducible refine peelT ?_) | (with_reducible refine peelB ?_) | (with_reducible refine peelTX ?_) | (with_reducible refine peelBX ?_) | (with_reducible refine peelBN ?_) | (with_reducible refine peelBO rfl ?_))
    exact ret2 (.inr rfl) Try.results55 rfl rfl fun w' h => ⟨(), trivial, rfl, h.sub (by repeat (first | exact TakeL.nil | (apply TakeL.cons; · repeat (first | exact Take1.head | apply Take1.tail))))⟩
end Go.Proofs.Ytnlibngncicobaa
