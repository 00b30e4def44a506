/- What is put: the walks. -/
import Derived.Test.YtmcdbjbkkejbbaaGreatWireA
namespace Go.Proofs.YtmcdbjbkkejbbaaGreat
open Go Go.RowKit

abbrev outR (b : Nat) (v : Value) (lim : Int) (wr : Bool) : Res := blkR b 138 [v, .int .i64 lim, .bool wr]
abbrev oR (b : Nat) (x : Option Addr × Nat) (lim : Int) (bs : List Int) (wr : Bool) : List Res := [outR b (.slice x.1 bs.length x.2) lim wr, ownR (.slice x.1 bs.length x.2) 5 1 bs.length (ints .u8 bs)]

theorem newOut_any (lim : Int) (w : World) (hw : OK w (fpL []) [] w) :
    Fn Tryz.prog 77 [.int .i64 lim] [] w (fun _ : Nat => True) (fun b => .pointer (some ⟨b, 0, none⟩)) (fun b => oR b (none, 0) lim [] false) := by
  refine enterF Tryz.func77 rfl Tryz.ntmps77 rfl hw ?_
  refine WC.seq ?_
  refine WC.region ?_
  refine WL.y (Yl.assign rfl) rfl ?_ -- t2
  refine WL.nil ?_
  refine WC.seq ?_
  refine WC.region ?_
  refine WL.y (Yl.move rfl) rfl ?_ -- t3
  refine WL.y (Yl.build rfl (cs := [.slice none 0 0, .int .i64 lim, .bool false]) (fun _ => by kernel_rfl)) rfl ?_ -- t4
  refine WL.to (To.box rfl rfl) rfl ?_ -- t5
  intro b5
  refine WL.y (Yl.assign rfl) rfl ?_ -- t2
  refine WL.nil ?_
  refine WC.ret ?_
  repeat (first | (with_reducible refine peelT ?_) | (with_reducible refine peelB ?_) | (with_reducible refine peelTX ?_) | (with_reducible refine peelBX ?_) | (with_reducible refine peelBN ?_) | (with_reducible refine peelBO rfl ?_))
  exact ret1 (.inr rfl) Tryz.results77 rfl fun w' h => ⟨b5, trivial, rfl, (h.addNil 5 1).sub (by repeat (first | exact TakeL.nil | (apply TakeL.cons; · repeat (first | exact Take1.head | apply Take1.tail))))⟩

theorem put_any (b : Nat) (x : Option Addr × Nat) (lim : Int) (bs : List Int) (wr : Bool) (xs : List Int) (xv : Value) (hlo : -9223372036854775808 ≤ lim ∧ lim ≤ 9223372036854775807) (hf : Fit lim (bs, wr)) (hsz : bs.length + xs.length ≤ 140737488355328) (w : World)
    (hx : RdS w (fpL (oR b x lim bs wr)) xv 1 xs.length (ints .u8 xs)) (hw : OK w (fpL (oR b x lim bs wr)) (oR b x lim bs wr) w) :
    Fn Tryz.prog 94 [.pointer (some ⟨b, 0, none⟩), xv] (oR b x lim bs wr) w (fun _ : Option Addr × Nat => True) (fun _ => .tuple #[]) (fun y => oR b y lim (pt lim (bs, wr) xs).1 (pt lim (bs, wr) xs).2) := by
  obtain ⟨ax, cx, rfl, hcx, hmx⟩ := hx.rd.form
  replace hf : bs.length = 0 ∨ (bs.length : Int) ≤ lim := hf
  refine enterF Tryz.func94 rfl Tryz.ntmps94 rfl hw ?_
  refine WC.seq ?_
  refine WC.seq ?_
  refine WC.region ?_
  refine WL.y (Yl.move rfl) rfl ?_ -- t4
  refine WL.y (Yl.nilEq un116 rfl rfl) rfl ?_ -- t5
  refine WL.know (t := 5) (b' := false) rfl (by first | rfl | (simp; done) | (simp; omega)) ?_
  refine WL.y (Yl.move rfl) rfl ?_ -- t6
  refine WL.on rfl rfl ?_
  refine WL.y (Yl.move rfl) rfl ?_ -- t7
  refine WL.on rfl rfl ?_
  refine WL.y (Yl.nilCheck rfl) rfl ?_ -- t8
  refine WL.on rfl rfl ?_
  refine WL.y (Yl.field fo138_2 rfl) rfl ?_ -- t9
  refine WL.on rfl rfl ?_
  refine WL.y (Yl.load on4 rfl (by repeat (first | exact Take1.head | apply Take1.tail)) (by rfl)) rfl ?_ -- t10
  refine WL.y (Yl.pickF rfl rfl) rfl ?_ -- t11
  refine WL.nil ?_
  refine WC.cond rfl (fun g11 => ?_) (fun g11 => ?_)
  · refine WC.ret ?_
    repeat (first | (with_reducible refine peelT ?_) | (with_reducible refine peelB ?_) | (with_reducible refine peelTX ?_) | (with_reducible refine peelBX ?_) | (with_reducible refine peelBN ?_) | (with_reducible refine peelBO rfl ?_))
    subst g11
    exact ret0 (.inr rfl) rfl fun w' h => ⟨x, trivial, rfl, by rw [pt_no (by simp)]; exact h.sub (by repeat (first | exact TakeL.nil | (apply TakeL.cons; · repeat (first | exact Take1.head | apply Take1.tail))))⟩
  · refine WC.skip ?_
    refine WC.seq ?_
    refine WC.drawTail 14 mixed (by kernel_rfl) ?_
    refine WH.y (Yl.move rfl) rfl ?_ -- t12
    refine WH.y (Yl.move rfl) rfl ?_ -- t13
    refine WH.y (Yl.len un23 rfl) rfl ?_ -- t14
    refine WH.y (Yl.move rfl) rfl ?_ -- t15
    refine WH.y (Yl.nilCheck rfl) rfl ?_ -- t16
    refine WH.y (Yl.field fo138_1 rfl) rfl ?_ -- t17
    refine WH.y (Yl.load on3 rfl (by repeat (first | exact Take1.head | apply Take1.tail)) (by rfl)) rfl ?_ -- t18
    refine WH.y (Yl.move rfl) rfl ?_ -- t19
    refine WH.y (Yl.nilCheck rfl) rfl ?_ -- t20
    refine WH.y (Yl.field fo138_0 rfl) rfl ?_ -- t21
    refine WH.y (Yl.load on23 rfl (by repeat (first | exact Take1.head | apply Take1.tail)) (by rfl)) rfl ?_ -- t22
    refine WH.y (Yl.len un23 rfl) rfl ?_ -- t23
    refine WH.y (Yl.sub rfl rfl (IntWalk.i64_in _ (by omega))) rfl ?_ -- t24
    refine WH.y (Yl.gtr rfl rfl) rfl ?_ -- t25
    refine WH.say (t := 25) (v' := .bool (wr || decide (lim - bs.length < xs.length))) rfl (by rw [g11]; simp) ?_
    refine WH.nil ?_
    refine WP.y (Yl.nilCheck rfl) rfl ?_ -- t26
    refine WP.y (Yl.field fo138_2 rfl) rfl ?_ -- t27
    refine WP.sto (Sto.one sz4 rfl rfl (by repeat (first | exact Take1.head | apply Take1.tail)) rfl (by rfl) (by rfl)) (fun _ h => nomatch h) ?_ -- st 1
    refine WP.nil ?_
    refine WC.seq ?_
    refine WC.region ?_
    refine WL.y (Yl.move rfl) rfl ?_ -- t28
    refine WL.y (Yl.nilCheck rfl) rfl ?_ -- t29
    refine WL.y (Yl.field fo138_2 rfl) rfl ?_ -- t30
    refine WL.y (Yl.load on4 rfl (by repeat (first | exact Take1.head | apply Take1.tail)) (by rfl)) rfl ?_ -- t31
    refine WL.y (Yl.not rfl) rfl ?_ -- t32
    refine WL.nil ?_
    refine WC.cond rfl (fun g32 => ?_) (fun g32 => ?_)
    · refine WC.region ?_
      refine WL.y (Yl.move rfl) rfl ?_ -- t33
      refine WL.y (Yl.move rfl) rfl ?_ -- t34
      refine WL.y (Yl.nilCheck rfl) rfl ?_ -- t35
      refine WL.y (Yl.field fo138_0 rfl) rfl ?_ -- t36
      refine WL.y (Yl.load on23 rfl (by repeat (first | exact Take1.head | apply Take1.tail)) (by rfl)) rfl ?_ -- t37
      refine WL.y (Yl.move rfl) rfl ?_ -- t38
      refine WL.to (To.append sl23 rfl rfl (by repeat (first | exact Take1.head | apply Take1.tail)) (Reads.s hx) (ints_one _ _) (N := (bs ++ xs).length) List.length_append.symm (ints_append _ _ _) (by rw [List.length_append]; unfold maxLen; omega) (by rw [List.length_append]; omega)) rfl ?_ -- t39
      rintro ⟨⟨ao39, c39⟩, hc39⟩
      dsimp only at hc39 ⊢
      refine WL.y (Yl.nilCheck rfl) rfl ?_ -- t40
      refine WL.y (Yl.field fo138_0 rfl) rfl ?_ -- t41
      refine WL.sto (Sto.one sz23 rfl rfl (by repeat (first | exact Take1.head | apply Take1.tail)) rfl (by rfl) (by rfl)) (fun _ h => nomatch h) ?_ -- st 2
      refine WL.nil ?_
      repeat (first | (with_reducible refine peelT ?_) | (with_reducible refine peelB ?_) | (with_reducible refine peelTX ?_) | (with_reducible refine peelBX ?_) | (with_reducible refine peelBN ?_) | (with_reducible refine peelBO rfl ?_))
      have e : (wr || decide (lim - (bs.length : Int) < xs.length)) = false := by
        generalize (wr || decide (lim - (bs.length : Int) < xs.length)) = q at g32
        simpa using g32
      exact ret0 (.inl rfl) rfl fun w' h => ⟨(ao39, c39), trivial, rfl, by rw [pt_yes e]; rw [e] at h; exact h.sub (by repeat (first | exact TakeL.nil | (apply TakeL.cons; · repeat (first | exact Take1.head | apply Take1.tail))))⟩
    · refine WC.skip ?_
      repeat (first | (with_reducible refine peelT ?_) | (with_reducible refine peelB ?_) | (with_reducible refine peelTX ?_) | (with_reducible refine peelBX ?_) | (with_reducible refine peelBN ?_) | (with_reducible refine peelBO rfl ?_))
      have e : (wr || decide (lim - (bs.length : Int) < xs.length)) = true := by
        generalize (wr || decide (lim - (bs.length : Int) < xs.length)) = q at g32
        simpa using g32
      exact ret0 (.inl rfl) rfl fun w' h => ⟨x, trivial, rfl, by rw [pt_no e]; rw [e] at h; exact h.sub (by repeat (first | exact TakeL.nil | (apply TakeL.cons; · repeat (first | exact Take1.head | apply Take1.tail))))⟩

theorem number_any (n : Int) (many : Nat) (hn : 0 ≤ n ∧ n < 18446744073709551616) (hm : many ≤ 8) (w : World) (hw : OK w (fpL []) [] w) :
    Fn Tryz.prog 95 [.int .u64 n, .int .i64 (many : Int)] [] w (fun _ : Option Addr × Nat => True) (fun y => .slice y.1 many y.2) (fun y => [ownR (.slice y.1 many y.2) 5 1 many (ints .u8 (be n many))]) := by
  refine enterF Tryz.func95 rfl Tryz.ntmps95 rfl hw ?_
  refine WC.seq ?_
  refine WC.region ?_
  refine WL.y (Yl.assign rfl) rfl ?_ -- t4
  refine WL.nil ?_
  refine WC.seq ?_
  refine WC.region ?_
  refine WL.y (Yl.assign rfl) rfl ?_ -- t5
  refine WL.nil ?_
  refine WC.seq ?_
  refine WC.seq ?_
  refine WC.region ?_
  refine WL.y (Yl.move rfl) rfl ?_ -- t7
  refine WL.y (Yl.sub rfl rfl (IntWalk.i64_in _ (by omega))) rfl ?_ -- t8
  refine WL.y (Yl.assign rfl) rfl ?_ -- t6
  refine WL.nil ?_
  refine WC.block ?_
  refine WC.view (fun w h => h.addNil 5 1) ?_
  refine WC.loop (α := Nat × (Option Addr × Nat)) (fun p => [(0, .int .u64 n), (5, .slice p.2.1 p.1 p.2.2), (6, .int .i64 ((many : Int) - 1 - (p.1 : Int)))]) (fun p => [ownR (.slice p.2.1 p.1 p.2.2) 5 1 p.1 (ints .u8 (beK n many p.1))]) (fun p => p.1 ≤ many) (fun p => many - p.1) (0, none, 0) (Nat.zero_le _) ⟨(by refine Sub.cons rfl (Sub.cons rfl (Sub.cons ?_ Sub.nil)); show some (Value.int .i64 _) = some (Value.int .i64 _); congr 2; dsimp only; omega), _, (by repeat (first | exact TakeL.nil | (apply TakeL.cons; · repeat (first | exact Take1.head | apply Take1.tail))))⟩ ?_
  rintro ⟨k, ao, c⟩ hk
  dsimp only at hk ⊢
  have hp : (0 : Int) ≤ 2 ^ (8 * (many - 1 - k)) := Int.pow_nonneg (by decide)
  refine WC.seq ?_
  refine WC.seq ?_
  refine WC.region ?_
  refine WL.y (Yl.move rfl) rfl ?_ -- t9
  refine WL.y (Yl.geq rfl rfl) rfl ?_ -- t10
  refine WL.nil ?_
  refine WC.condD rfl (fun g10 => ?_) (fun g10 => ?_)
  · refine WC.skip ?_
    refine WC.seq ?_
    refine WC.block ?_
    refine WC.region ?_
    refine WL.y (Yl.move rfl) rfl ?_ -- t13
    refine WL.y (Yl.move rfl) rfl ?_ -- t14
    refine WL.y (Yl.move rfl) rfl ?_ -- t15
    refine WL.y (Yl.mul rfl rfl (IntWalk.i64_in _ (by omega))) rfl ?_ -- t16
    refine WL.y (Yl.shr rfl rfl ⟨by omega, (by simp [IntKind.bits]; try omega)⟩ rfl) rfl ?_ -- t17
    refine WL.y (Yl.conv un31 un5 rfl (be_byte n many k (by omega) hm)) rfl ?_ -- t18
    refine WL.to (To.buildSlice (vs := [.int .u8 (n / 2 ^ (8 * (many - 1 - k)) % 256)]) un23 zs5 rfl rfl (by simp [Value.cells]) (by decide) (by decide)) rfl ?_ -- t19
    intro b19
    refine WL.to (To.append sl23 rfl rfl (by repeat (first | exact Take1.head | apply Take1.tail)) (Reads.of (RdOf.blk (cs := [.int .u8 (n / 2 ^ (8 * (many - 1 - k)) % 256)]) (cs' := ints .u8 [n / 2 ^ (8 * (many - 1 - k)) % 256]) (Nat.le_refl _) (by unfold maxLen; omega) (by simp) rfl) (by repeat (first | exact Take1.head | apply Take1.tail))) (ints_one _ _) rfl (by rw [ints_append, ← beK_succ]) (by unfold maxLen; omega) (by omega)) rfl ?_ -- t20
    rintro ⟨⟨ao20, c20⟩, hc20⟩
    dsimp only at hc20 ⊢
    refine WL.y (Yl.assign rfl) rfl ?_ -- t5
    refine WL.nil ?_
    refine WC.region ?_
    refine WL.y (Yl.move rfl) rfl ?_ -- t11
    refine WL.y (Yl.sub rfl rfl (IntWalk.i64_in _ (by omega))) rfl ?_ -- t12
    refine WL.y (Yl.assign rfl) rfl ?_ -- t6
    refine WL.nil ?_
    refine ⟨rfl, (k + 1, ao20, c20), by dsimp only; omega, by dsimp only; omega, (by refine Sub.cons rfl (Sub.cons rfl (Sub.cons ?_ Sub.nil)); show some (Value.int .i64 _) = some (Value.int .i64 _); congr 2; dsimp only; omega), _, (by repeat (first | exact TakeL.nil | (apply TakeL.cons; · repeat (first | exact Take1.head | apply Take1.tail))))⟩
  · refine WC.exit ?_
    refine WC.seq ?_
    refine WC.region ?_
    refine WL.y (Yl.move rfl) rfl ?_ -- t21
    refine WL.y (Yl.assign rfl) rfl ?_ -- t4
    refine WL.nil ?_
    refine WC.ret ?_
    repeat (first | (with_reducible refine peelT ?_) | (with_reducible refine peelB ?_) | (with_reducible refine peelTX ?_) | (with_reducible refine peelBX ?_) | (with_reducible refine peelBN ?_) | (with_reducible refine peelBO rfl ?_))
    have hkm : k = many := by omega
    subst hkm
    exact ret1 (.inr rfl) Tryz.results95 rfl fun w' h => ⟨(ao, c), trivial, rfl, h.sub (by repeat (first | exact TakeL.nil | (apply TakeL.cons; · repeat (first | exact Take1.head | apply Take1.tail))))⟩

theorem outU8_any (b : Nat) (x : Option Addr × Nat) (lim : Int) (bs : List Int) (wr : Bool) (xs : List Int) (xv : Value) (hlo : -9223372036854775808 ≤ lim ∧ lim ≤ 9223372036854775807) (hf : Fit lim (bs, wr)) (hsz : bs.length + xs.length ≤ 140737488355328) (w : World)
    (hx : RdS w (fpL (oR b x lim bs wr)) xv 1 xs.length (ints .u8 xs)) (hw : OK w (fpL (oR b x lim bs wr)) (oR b x lim bs wr) w) :
    Fn Tryz.prog 79 [.pointer (some ⟨b, 0, none⟩), xv] (oR b x lim bs wr) w (fun _ : Option Addr × Nat => True) (fun _ => .tuple #[]) (fun y => oR b y lim (pt lim (bs, wr) xs).1 (pt lim (bs, wr) xs).2) := by
  refine enterF Tryz.func79 rfl Tryz.ntmps79 rfl hw ?_
  refine WC.region ?_
  refine WL.y (Yl.move rfl) rfl ?_ -- t4
  refine WL.y (Yl.move rfl) rfl ?_ -- t5
  refine WL.callC (xs := [.tmp 4, .tmp 5]) (cap := []) rfl rfl en94 (by repeat (first | exact TakeL.nil | (apply TakeL.cons; · repeat (first | exact Take1.head | apply Take1.tail)))) (fun w hw => put_any b x lim bs wr xs xv hlo hf hsz w (hw.srcS hx) hw.left.here) rfl ?_ -- t6 (*hailer/wire.Out).put
  intro y _
  refine WL.nil ?_
  repeat (first | (with_reducible refine peelT ?_) | (with_reducible refine peelB ?_) | (with_reducible refine peelTX ?_) | (with_reducible refine peelBX ?_) | (with_reducible refine peelBN ?_) | (with_reducible refine peelBO rfl ?_))
  exact ret0 (.inl rfl) rfl fun w' h => ⟨y, trivial, rfl, h.sub (by repeat (first | exact TakeL.nil | (apply TakeL.cons; · repeat (first | exact Take1.head | apply Take1.tail))))⟩

def b8 (l : List Int) : List (List Int) := l.map (be · 8)

theorem outU64_any (b : Nat) (x : Option Addr × Nat) (lim : Int) (bs : List Int) (wr : Bool) (l : List Int) (lv : Value) (hlo : -9223372036854775808 ≤ lim ∧ lim ≤ 9223372036854775807) (hf : Fit lim (bs, wr)) (hsz : bs.length + total (b8 l) ≤ 140737488355328) (hl : ∀ x ∈ l, 0 ≤ x ∧ x < 18446744073709551616) (w : World)
    (hx : RdS w (fpL (oR b x lim bs wr)) lv 1 l.length (ints .u64 l)) (hw : OK w (fpL (oR b x lim bs wr)) (oR b x lim bs wr) w) :
    Fn Tryz.prog 81 [.pointer (some ⟨b, 0, none⟩), lv] (oR b x lim bs wr) w (fun _ : Option Addr × Nat => True) (fun _ => .tuple #[]) (fun y => oR b y lim (pts lim (bs, wr) (b8 l)).1 (pts lim (bs, wr) (b8 l)).2) := by
  obtain ⟨al, cl, rfl, hcl, hml⟩ := hx.rd.form
  unfold maxLen at hml
  refine enterF Tryz.func81 rfl Tryz.ntmps81 rfl hw ?_
  refine WC.seq ?_
  refine WC.region ?_
  refine WL.y (Yl.move rfl) rfl ?_ -- t6
  refine WL.y (Yl.len un92 rfl) rfl ?_ -- t7
  refine WL.y (Yl.move rfl) rfl ?_ -- t8
  refine WL.nil ?_
  refine WC.block ?_
  refine WC.loop (α := Nat × (Option Addr × Nat)) (fun p => [(0, .pointer (some ⟨b, 0, none⟩)), (6, .slice al l.length cl), (7, .int .i64 (l.length : Int)), (8, .int .i64 (p.1 : Int))]) (fun p => oR b p.2 lim (pts lim (bs, wr) ((b8 l).take p.1)).1 (pts lim (bs, wr) ((b8 l).take p.1)).2) (fun p => p.1 ≤ l.length) (fun p => l.length - p.1) (0, x) (Nat.zero_le _) ⟨(by repeat (first | exact Sub.nil | refine Sub.cons rfl ?_)), _, (by repeat (first | exact TakeL.nil | (apply TakeL.cons; · repeat (first | exact Take1.head | apply Take1.tail))))⟩ ?_
  rintro ⟨j, y⟩ hj
  dsimp only at hj ⊢
  refine WC.seq ?_
  refine WC.region ?_
  refine WL.y (Yl.lss rfl rfl) rfl ?_ -- t9
  refine WL.nil ?_
  refine WC.seq ?_
  refine WC.condD rfl (fun g9 => ?_) (fun g9 => ?_)
  · refine WC.skip ?_
    refine WC.seq ?_
    refine WC.block ?_
    refine WC.seq ?_
    refine WC.region ?_
    have hjl : j < l.length := by omega
    have hn := hl _ (List.mem_of_getElem? (getD_of hjl))
    have hb : (b8 l)[j]? = some (be (l.getD j 0) 8) := by simp [b8, hjl]
    have hq := total_take hb
    rw [be_len] at hq
    have hq2 := pts_len (lim := lim) ((b8 l).take j) (bs, wr)
    dsimp only at hq2
    have hq3 := pts_fit ((b8 l).take j) hf
    have hq4 : pts lim (bs, wr) ((b8 l).take (j + 1)) = pt lim (pts lim (bs, wr) ((b8 l).take j)) (be (l.getD j 0) 8) := by rw [← take_snoc _ _ _ hb, pts_snoc]
    generalize pts lim (bs, wr) ((b8 l).take j) = s at hq2 hq3 hq4 ⊢
    obtain ⟨sb, sw⟩ := s
    dsimp only at hq2 ⊢
    refine WL.y (Yl.index un92 sz31 rfl rfl (Reads.s hx) rfl (by omega)) rfl ?_ -- t10
    refine WL.y (Yl.loadE on31 rfl (Reads.s hx) (ints_get .u64 l j (by omega))) rfl ?_ -- t11
    refine WL.y (Yl.assign rfl) rfl ?_ -- t5
    refine WL.nil ?_
    refine WC.region ?_
    refine WL.y (Yl.move rfl) rfl ?_ -- t12
    refine WL.y (Yl.move rfl) rfl ?_ -- t13
    refine WL.callC (xs := [.tmp 13, _]) (cap := []) rfl rfl en95 (by repeat (first | exact TakeL.nil | (apply TakeL.cons; · repeat (first | exact Take1.head | apply Take1.tail)))) (fun w hw => number_any (l.getD j 0) 8 hn (by omega) w hw.left.here) rfl ?_ -- t14 hailer/wire.number[uint64]
    intro z _
    refine WL.callC (xs := [.tmp 12, .tmp 14]) (cap := []) rfl rfl en94 (by repeat (first | exact TakeL.nil | (apply TakeL.cons; · repeat (first | exact Take1.head | apply Take1.tail)))) (fun w hw => put_any b y lim sb sw (be (l.getD j 0) 8) (.slice z.1 8 z.2) hlo hq3 (by rw [be_len]; omega) w (hw.src RdOf.own (by repeat (first | exact Take1.head | apply Take1.tail))) hw.left.here) rfl ?_ -- t15 (*hailer/wire.Out).put
    intro y2 _
    refine WL.nil ?_
    refine WC.region ?_
    refine WL.y (Yl.add rfl rfl (IntWalk.i64_in _ (by omega))) rfl ?_ -- t16
    refine WL.y (Yl.move rfl) rfl ?_ -- t8
    refine WL.nil ?_
    refine ⟨rfl, (j + 1, y2), by dsimp only; omega, by dsimp only; omega, (by repeat (first | exact Sub.nil | refine Sub.cons rfl ?_)), _, (by dsimp only; rw [hq4]; exact (by repeat (first | exact TakeL.nil | (apply TakeL.cons; · repeat (first | exact Take1.head | apply Take1.tail)))))⟩
  · refine WC.exit ?_
    repeat (first | (with_reducible refine peelT ?_) | (with_reducible refine peelB ?_) | (with_reducible refine peelTX ?_) | (with_reducible refine peelBX ?_) | (with_reducible refine peelBN ?_) | (with_reducible refine peelBO rfl ?_))
    have hj2 : j = (b8 l).length := by simp [b8]; omega
    exact ret0 (.inl rfl) rfl fun w' h => ⟨y, trivial, rfl, by rw [hj2, List.take_length] at h; exact h.sub (by repeat (first | exact TakeL.nil | (apply TakeL.cons; · repeat (first | exact Take1.head | apply Take1.tail))))⟩

theorem outFlag_any (b : Nat) (x : Option Addr × Nat) (lim : Int) (bs : List Int) (wr : Bool) (l : List Bool) (lv : Value) (hlo : -9223372036854775808 ≤ lim ∧ lim ≤ 9223372036854775807) (hf : Fit lim (bs, wr)) (hsz : bs.length + total (l.map flagB) ≤ 140737488355328) (w : World)
    (hx : RdS w (fpL (oR b x lim bs wr)) lv 1 l.length (l.map Value.bool)) (hw : OK w (fpL (oR b x lim bs wr)) (oR b x lim bs wr) w) :
    Fn Tryz.prog 80 [.pointer (some ⟨b, 0, none⟩), lv] (oR b x lim bs wr) w (fun _ : Option Addr × Nat => True) (fun _ => .tuple #[]) (fun y => oR b y lim (pts lim (bs, wr) (l.map flagB)).1 (pts lim (bs, wr) (l.map flagB)).2) := by
  obtain ⟨al, cl, rfl, hcl, hml⟩ := hx.rd.form
  unfold maxLen at hml
  refine enterF Tryz.func80 rfl Tryz.ntmps80 rfl hw ?_
  refine WC.seq ?_
  refine WC.region ?_
  refine WL.y (Yl.move rfl) rfl ?_ -- t7
  refine WL.y (Yl.len un139 rfl) rfl ?_ -- t8
  refine WL.y (Yl.move rfl) rfl ?_ -- t9
  refine WL.nil ?_
  refine WC.block ?_
  refine WC.loop (α := Nat × (Option Addr × Nat)) (fun p => [(0, .pointer (some ⟨b, 0, none⟩)), (7, .slice al l.length cl), (8, .int .i64 (l.length : Int)), (9, .int .i64 (p.1 : Int))]) (fun p => oR b p.2 lim (pts lim (bs, wr) ((l.map flagB).take p.1)).1 (pts lim (bs, wr) ((l.map flagB).take p.1)).2) (fun p => p.1 ≤ l.length) (fun p => l.length - p.1) (0, x) (Nat.zero_le _) ⟨(by repeat (first | exact Sub.nil | refine Sub.cons rfl ?_)), _, (by repeat (first | exact TakeL.nil | (apply TakeL.cons; · repeat (first | exact Take1.head | apply Take1.tail))))⟩ ?_
  rintro ⟨j, y⟩ hj
  dsimp only at hj ⊢
  refine WC.seq ?_
  refine WC.region ?_
  refine WL.y (Yl.lss rfl rfl) rfl ?_ -- t10
  refine WL.nil ?_
  refine WC.seq ?_
  refine WC.condD rfl (fun g10 => ?_) (fun g10 => ?_)
  · refine WC.skip ?_
    refine WC.seq ?_
    refine WC.block ?_
    refine WC.seq ?_
    refine WC.region ?_
    have hjl : j < l.length := by omega
    have hfl : (l.map Value.bool)[j]? = some (.bool (l.getD j false)) := by simp [hjl]
    have hb : (l.map flagB)[j]? = some (flagB (l.getD j false)) := by simp [hjl]
    have hq := total_take hb
    rw [show (flagB (l.getD j false)).length = 1 from rfl] at hq
    have hq2 := pts_len (lim := lim) ((l.map flagB).take j) (bs, wr)
    dsimp only at hq2
    have hq3 := pts_fit ((l.map flagB).take j) hf
    have hq4 : pts lim (bs, wr) ((l.map flagB).take (j + 1)) = pt lim (pts lim (bs, wr) ((l.map flagB).take j)) (flagB (l.getD j false)) := by rw [← take_snoc _ _ _ hb, pts_snoc]
    generalize pts lim (bs, wr) ((l.map flagB).take j) = s at hq2 hq3 hq4 ⊢
    obtain ⟨sb, sw⟩ := s
    dsimp only at hq2 ⊢
    refine WL.y (Yl.index un139 sz4 rfl rfl (Reads.s hx) rfl (by omega)) rfl ?_ -- t11
    refine WL.y (Yl.loadE on4 rfl (Reads.s hx) hfl) rfl ?_ -- t12
    refine WL.y (Yl.assign rfl) rfl ?_ -- t5
    refine WL.nil ?_
    refine WC.seq ?_
    refine WC.region ?_
    refine WL.y (Yl.assign rfl) rfl ?_ -- t6
    refine WL.nil ?_
    refine WC.seq ?_
    refine WC.seq ?_
    refine WC.region ?_
    refine WL.y (Yl.move rfl) rfl ?_ -- t13
    refine WL.nil ?_
    refine WC.cond rfl (fun g13 => ?_) (fun g13 => ?_)
    · refine WC.region ?_
      refine WL.y (Yl.assign rfl) rfl ?_ -- t6
      refine WL.nil ?_
      refine WC.region ?_
      refine WL.y (Yl.move rfl) rfl ?_ -- t14
      refine WL.y (Yl.move rfl) rfl ?_ -- t15
      refine WL.to (To.buildSlice (vs := [.int .u8 1]) un23 zs5 rfl rfl (by simp [Value.cells]) (by decide) (by decide)) rfl ?_ -- t16
      intro b16
      refine WL.callC (xs := [.tmp 14, .tmp 16]) (cap := []) rfl rfl en94 (by repeat (first | exact TakeL.nil | (apply TakeL.cons; · repeat (first | exact Take1.head | apply Take1.tail)))) (fun w hw => put_any b y lim sb sw [1] (.slice (some ⟨b16, 0, none⟩) 1 1) hlo hq3 (by dsimp only [List.length]; omega) w (hw.src (RdOf.blk (cs := [.int .u8 1]) (Nat.le_refl _) (by unfold maxLen; omega) (by simp) rfl) (by repeat (first | exact Take1.head | apply Take1.tail))) hw.left.here) rfl ?_ -- t17 (*hailer/wire.Out).put
      intro y2 _
      refine WL.nil ?_
      refine WC.region ?_
      refine WL.y (Yl.add rfl rfl (IntWalk.i64_in _ (by omega))) rfl ?_ -- t18
      refine WL.y (Yl.move rfl) rfl ?_ -- t9
      refine WL.nil ?_
      refine ⟨rfl, (j + 1, y2), by dsimp only; omega, by dsimp only; omega, (by repeat (first | exact Sub.nil | refine Sub.cons rfl ?_)), _, (by dsimp only; rw [hq4, g13]; exact (by repeat (first | exact TakeL.nil | (apply TakeL.cons; · repeat (first | exact Take1.head | apply Take1.tail)))))⟩
    · refine WC.skip ?_
      refine WC.region ?_
      refine WL.y (Yl.move rfl) rfl ?_ -- t14
      refine WL.y (Yl.move rfl) rfl ?_ -- t15
      refine WL.to (To.buildSlice (vs := [.int .u8 0]) un23 zs5 rfl rfl (by simp [Value.cells]) (by decide) (by decide)) rfl ?_ -- t16
      intro b16
      refine WL.callC (xs := [.tmp 14, .tmp 16]) (cap := []) rfl rfl en94 (by repeat (first | exact TakeL.nil | (apply TakeL.cons; · repeat (first | exact Take1.head | apply Take1.tail)))) (fun w hw => put_any b y lim sb sw [0] (.slice (some ⟨b16, 0, none⟩) 1 1) hlo hq3 (by dsimp only [List.length]; omega) w (hw.src (RdOf.blk (cs := [.int .u8 0]) (Nat.le_refl _) (by unfold maxLen; omega) (by simp) rfl) (by repeat (first | exact Take1.head | apply Take1.tail))) hw.left.here) rfl ?_ -- t17 (*hailer/wire.Out).put
      intro y2 _
      refine WL.nil ?_
      refine WC.region ?_
      refine WL.y (Yl.add rfl rfl (IntWalk.i64_in _ (by omega))) rfl ?_ -- t18
      refine WL.y (Yl.move rfl) rfl ?_ -- t9
      refine WL.nil ?_
      refine ⟨rfl, (j + 1, y2), by dsimp only; omega, by dsimp only; omega, (by repeat (first | exact Sub.nil | refine Sub.cons rfl ?_)), _, (by dsimp only; rw [hq4, g13]; exact (by repeat (first | exact TakeL.nil | (apply TakeL.cons; · repeat (first | exact Take1.head | apply Take1.tail)))))⟩
  · refine WC.exit ?_
    repeat (first | (with_reducible refine peelT ?_) | (with_reducible refine peelB ?_) | (with_reducible refine peelTX ?_) | (with_reducible refine peelBX ?_) | (with_reducible refine peelBN ?_) | (with_reducible refine peelBO rfl ?_))
    have hj2 : j = (l.map flagB).length := by simp; omega
    exact ret0 (.inl rfl) rfl fun w' h => ⟨y, trivial, rfl, by rw [hj2, List.take_length] at h; exact h.sub (by repeat (first | exact TakeL.nil | (apply TakeL.cons; · repeat (first | exact Take1.head | apply Take1.tail))))⟩

theorem outFixed_any (b : Nat) (x : Option Addr × Nat) (lim : Int) (bs : List Int) (wr : Bool) (l : List (List Int)) (vs : List Value) (lv : Value) (hvl : vs.length = l.length) (hlo : -9223372036854775808 ≤ lim ∧ lim ≤ 9223372036854775807) (hf : Fit lim (bs, wr)) (hsz : bs.length + total l ≤ 140737488355328) (w : World)
    (hx : RdS w (fpL (oR b x lim bs wr)) lv 1 l.length vs) (hxs : ∀ (i : Nat) (v : Value) (c : List Int), vs[i]? = some v → l[i]? = some c → RdS w (fpL (oR b x lim bs wr)) v 1 c.length (ints .u8 c)) (hw : OK w (fpL (oR b x lim bs wr)) (oR b x lim bs wr) w) :
    Fn Tryz.prog 78 [.pointer (some ⟨b, 0, none⟩), lv] (oR b x lim bs wr) w (fun _ : Option Addr × Nat => True) (fun _ => .tuple #[]) (fun y => oR b y lim (pts lim (bs, wr) l).1 (pts lim (bs, wr) l).2) := by
  obtain ⟨al, cl, rfl, hcl, hml⟩ := hx.rd.form
  unfold maxLen at hml
  refine enterF Tryz.func78 rfl Tryz.ntmps78 rfl hw ?_
  refine WC.seq ?_
  refine WC.region ?_
  refine WL.y (Yl.move rfl) rfl ?_ -- t6
  refine WL.y (Yl.len un123 rfl) rfl ?_ -- t7
  refine WL.y (Yl.move rfl) rfl ?_ -- t8
  refine WL.nil ?_
  refine WC.block ?_
  refine WC.loop (α := Nat × (Option Addr × Nat)) (fun p => [(0, .pointer (some ⟨b, 0, none⟩)), (6, .slice al l.length cl), (7, .int .i64 (l.length : Int)), (8, .int .i64 (p.1 : Int))]) (fun p => oR b p.2 lim (pts lim (bs, wr) (l.take p.1)).1 (pts lim (bs, wr) (l.take p.1)).2) (fun p => p.1 ≤ l.length) (fun p => l.length - p.1) (0, x) (Nat.zero_le _) ⟨(by repeat (first | exact Sub.nil | refine Sub.cons rfl ?_)), _, (by repeat (first | exact TakeL.nil | (apply TakeL.cons; · repeat (first | exact Take1.head | apply Take1.tail))))⟩ ?_
  rintro ⟨j, y⟩ hj
  dsimp only at hj ⊢
  refine WC.seq ?_
  refine WC.region ?_
  refine WL.y (Yl.lss rfl rfl) rfl ?_ -- t9
  refine WL.nil ?_
  refine WC.seq ?_
  refine WC.condD rfl (fun g9 => ?_) (fun g9 => ?_)
  · refine WC.skip ?_
    refine WC.seq ?_
    refine WC.block ?_
    refine WC.seq ?_
    refine WC.region ?_
    have hjl : j < l.length := by omega
    obtain ⟨c, hb⟩ : ∃ c, l[j]? = some c := ⟨_, List.getElem?_eq_getElem hjl⟩
    obtain ⟨v, hv⟩ : ∃ v, vs[j]? = some v := ⟨_, List.getElem?_eq_getElem (by omega)⟩
    have hvc := hxs j v c hv hb
    have hq := total_take hb
    have hq2 := pts_len (lim := lim) (l.take j) (bs, wr)
    dsimp only at hq2
    have hq3 := pts_fit (l.take j) hf
    have hq4 : pts lim (bs, wr) (l.take (j + 1)) = pt lim (pts lim (bs, wr) (l.take j)) c := by rw [← take_snoc _ _ _ hb, pts_snoc]
    generalize pts lim (bs, wr) (l.take j) = s at hq2 hq3 hq4 ⊢
    obtain ⟨sb, sw⟩ := s
    dsimp only at hq2 ⊢
    refine WL.y (Yl.index un123 sz23 rfl rfl (Reads.s hx) rfl (by omega)) rfl ?_ -- t10
    refine WL.y (Yl.loadE on23 rfl (Reads.s hx) hv) rfl ?_ -- t11
    refine WL.y (Yl.assign rfl) rfl ?_ -- t5
    refine WL.nil ?_
    refine WC.region ?_
    refine WL.y (Yl.move rfl) rfl ?_ -- t12
    refine WL.y (Yl.move rfl) rfl ?_ -- t13
    refine WL.callC (xs := [.tmp 12, .tmp 13]) (cap := []) rfl rfl en94 (by repeat (first | exact TakeL.nil | (apply TakeL.cons; · repeat (first | exact Take1.head | apply Take1.tail)))) (fun w hw => put_any b y lim sb sw c v hlo hq3 (by omega) w (hw.srcS hvc) hw.left.here) rfl ?_ -- t14 (*hailer/wire.Out).put
    intro y2 _
    refine WL.nil ?_
    refine WC.region ?_
    refine WL.y (Yl.add rfl rfl (IntWalk.i64_in _ (by omega))) rfl ?_ -- t15
    refine WL.y (Yl.move rfl) rfl ?_ -- t8
    refine WL.nil ?_
    refine ⟨rfl, (j + 1, y2), by dsimp only; omega, by dsimp only; omega, (by repeat (first | exact Sub.nil | refine Sub.cons rfl ?_)), _, (by dsimp only; rw [hq4]; exact (by repeat (first | exact TakeL.nil | (apply TakeL.cons; · repeat (first | exact Take1.head | apply Take1.tail)))))⟩
  · refine WC.exit ?_
    repeat (first | (with_reducible refine peelT ?_) | (with_reducible refine peelB ?_) | (with_reducible refine peelTX ?_) | (with_reducible refine peelBX ?_) | (with_reducible refine peelBN ?_) | (with_reducible refine peelBO rfl ?_))
    have hj2 : j = l.length := by omega
    exact ret0 (.inl rfl) rfl fun w' h => ⟨y, trivial, rfl, by rw [hj2, List.take_length] at h; exact h.sub (by repeat (first | exact TakeL.nil | (apply TakeL.cons; · repeat (first | exact Take1.head | apply Take1.tail))))⟩

theorem outBytes_ok (b : Nat) (x : Option Addr × Nat) (lim : Int) (bs : List Int) (hl0 : 0 ≤ lim) (hsz : bs.length ≤ 140737488355328) (w : World) (hw : OK w (fpL (oR b x lim bs false)) (oR b x lim bs false) w) :
    Fn Tryz.prog 82 [.pointer (some ⟨b, 0, none⟩)] (oR b x lim bs false) w (fun y : Option Addr × Nat => bs.length ≤ y.2) (fun y => .tuple #[.slice y.1 bs.length y.2, .int .i64 0]) (fun y => ownR (.slice y.1 bs.length y.2) 5 1 bs.length (ints .u8 bs) :: oR b x lim bs false) := by
  refine enterF Tryz.func82 rfl Tryz.ntmps82 rfl hw ?_
  refine WC.seq ?_
  refine WC.region ?_
  refine WL.y (Yl.assign rfl) rfl ?_ -- t2
  refine WL.y (Yl.assign rfl) rfl ?_ -- t3
  refine WL.nil ?_
  refine WC.seq ?_
  refine WC.block ?_
  refine WC.seq ?_
  refine WC.region ?_
  refine WL.y (Yl.move rfl) rfl ?_ -- t5
  refine WL.y (Yl.nilEq un116 rfl rfl) rfl ?_ -- t6
  refine WL.y (Yl.assign rfl) rfl ?_ -- t4
  refine WL.nil ?_
  refine WC.condF rfl (by first | rfl | (simp; done) | (simp; omega)) ?_
  refine WC.seq ?_
  refine WC.region ?_
  refine WL.y (Yl.move rfl) rfl ?_ -- t8
  refine WL.y (Yl.nilCheck rfl) rfl ?_ -- t9
  refine WL.y (Yl.field fo138_2 rfl) rfl ?_ -- t10
  refine WL.y (Yl.load on4 rfl (by repeat (first | exact Take1.head | apply Take1.tail)) (by rfl)) rfl ?_ -- t11
  refine WL.know (t := 11) (b' := false) rfl (by first | rfl | (simp; done) | (simp; omega)) ?_
  refine WL.y (Yl.move rfl) rfl ?_ -- t12
  refine WL.on rfl rfl ?_
  refine WL.y (Yl.move rfl) rfl ?_ -- t13
  refine WL.on rfl rfl ?_
  refine WL.y (Yl.nilCheck rfl) rfl ?_ -- t14
  refine WL.on rfl rfl ?_
  refine WL.y (Yl.field fo138_1 rfl) rfl ?_ -- t15
  refine WL.on rfl rfl ?_
  refine WL.y (Yl.load on3 rfl (by repeat (first | exact Take1.head | apply Take1.tail)) (by rfl)) rfl ?_ -- t16
  refine WL.on rfl rfl ?_
  refine WL.y (Yl.lss rfl rfl) rfl ?_ -- t17
  refine WL.know (t := 17) (b' := false) rfl (by first | rfl | (simp; done) | (simp; omega)) ?_
  refine WL.y (Yl.pickF rfl rfl) rfl ?_ -- t18
  refine WL.y (Yl.assign rfl) rfl ?_ -- t7
  refine WL.nil ?_
  refine WC.condF rfl (by first | rfl | (simp; done) | (simp; omega)) ?_
  refine WC.skip ?_
  refine WC.seq ?_
  refine WC.region ?_
  refine WL.to (To.buildSlice (vs := []) un23 zs5 rfl rfl (by simp [Value.cells]) (by decide) (by decide)) rfl ?_ -- t19
  intro b19
  refine WL.view (fun w h => h.blkOwn (b := b19) (size := 1) (n := 0) (by repeat (first | exact Take1.head | apply Take1.tail)) (by unfold maxLen; omega) rfl) ?_
  refine WL.y (Yl.move rfl) rfl ?_ -- t20
  refine WL.y (Yl.nilCheck rfl) rfl ?_ -- t21
  refine WL.y (Yl.field fo138_0 rfl) rfl ?_ -- t22
  refine WL.y (Yl.load on23 rfl (by repeat (first | exact Take1.head | apply Take1.tail)) (by rfl)) rfl ?_ -- t23
  refine WL.to (To.append sl23 rfl rfl (by repeat (first | exact Take1.head | apply Take1.tail)) (Reads.own (by repeat (first | exact Take1.head | apply Take1.tail))) (ints_one _ _) (Nat.zero_add _) (by rfl) (by unfold maxLen; omega) (by omega)) rfl ?_ -- t24
  rintro ⟨⟨ao24, c24⟩, hc24⟩
  dsimp only at hc24 ⊢
  refine WL.y (Yl.assign rfl) rfl ?_ -- t2
  refine WL.y (Yl.assign rfl) rfl ?_ -- t3
  refine WL.nil ?_
  refine WC.ret ?_
  repeat (first | (with_reducible refine peelT ?_) | (with_reducible refine peelB ?_) | (with_reducible refine peelTX ?_) | (with_reducible refine peelBX ?_) | (with_reducible refine peelBN ?_) | (with_reducible refine peelBO rfl ?_))
  exact ret2 (.inr rfl) Tryz.results82 rfl rfl fun w' h => ⟨(ao24, c24), hc24, rfl, h.sub (by repeat (first | exact TakeL.nil | (apply TakeL.cons; · repeat (first | exact Take1.head | apply Take1.tail))))⟩

theorem outBytes_bad (b : Nat) (x : Option Addr × Nat) (lim : Int) (bs : List Int) (wr : Bool) (hl0 : (wr || decide (lim < 0)) = true) (w : World) (hw : OK w (fpL (oR b x lim bs wr)) (oR b x lim bs wr) w) :
    Fn Tryz.prog 82 [.pointer (some ⟨b, 0, none⟩)] (oR b x lim bs wr) w (fun _ : Unit => True) (fun _ => .tuple #[.slice none 0 0, .int .i64 3]) (fun _ => oR b x lim bs wr) := by
  refine enterF Tryz.func82 rfl Tryz.ntmps82 rfl hw ?_
  refine WC.seq ?_
  refine WC.region ?_
  refine WL.y (Yl.assign rfl) rfl ?_ -- t2
  refine WL.y (Yl.assign rfl) rfl ?_ -- t3
  refine WL.nil ?_
  refine WC.seq ?_
  refine WC.block ?_
  refine WC.seq ?_
  refine WC.region ?_
  refine WL.y (Yl.move rfl) rfl ?_ -- t5
  refine WL.y (Yl.nilEq un116 rfl rfl) rfl ?_ -- t6
  refine WL.y (Yl.assign rfl) rfl ?_ -- t4
  refine WL.nil ?_
  refine WC.condF rfl (by first | rfl | (simp; done) | (simp; omega)) ?_
  refine WC.seq ?_
  refine WC.region ?_
  refine WL.y (Yl.move rfl) rfl ?_ -- t8
  refine WL.y (Yl.nilCheck rfl) rfl ?_ -- t9
  refine WL.y (Yl.field fo138_2 rfl) rfl ?_ -- t10
  refine WL.y (Yl.load on4 rfl (by repeat (first | exact Take1.head | apply Take1.tail)) (by rfl)) rfl ?_ -- t11
  refine WL.y (Yl.move rfl) rfl ?_ -- t12
  refine WL.both (t := 12) rfl (fun g12 => ?_) (fun g12 => ?_)
  · refine WL.off rfl rfl rfl rfl ?_ -- t13
    refine WL.off rfl rfl rfl rfl ?_ -- t14
    refine WL.off rfl rfl rfl rfl ?_ -- t15
    refine WL.off rfl rfl rfl rfl ?_ -- t16
    refine WL.off rfl rfl rfl rfl ?_ -- t17
    refine WL.y (Yl.pickT rfl rfl) rfl ?_ -- t18
    refine WL.say (t := 18) (v' := .bool true) rfl (by (simp [g12] at hl0 ⊢; try exact hl0)) ?_
    refine WL.y (Yl.assign rfl) rfl ?_ -- t7
    refine WL.nil ?_
    refine WC.condT rfl (by first | rfl | (simp; done) | (simp; omega)) ?_
    refine WC.seq ?_
    refine WC.region ?_
    refine WL.y (Yl.assign rfl) rfl ?_ -- t2
    refine WL.y (Yl.assign rfl) rfl ?_ -- t3
    refine WL.nil ?_
    refine WC.ret ?_
    repeat (first | (with_reducible refine peelT ?_) | (with_reducible refine peelB ?_) | (with_reducible refine peelTX ?_) | (with_reducible refine peelBX ?_) | (with_reducible refine peelBN ?_) | (with_reducible refine peelBO rfl ?_))
    exact ret2 (.inr rfl) Tryz.results82 rfl rfl fun w' h => ⟨(), trivial, rfl, h.sub (by repeat (first | exact TakeL.nil | (apply TakeL.cons; · repeat (first | exact Take1.head | apply Take1.tail))))⟩
  · refine WL.on rfl rfl ?_
    refine WL.y (Yl.move rfl) rfl ?_ -- t13
    refine WL.on rfl rfl ?_
    refine WL.y (Yl.nilCheck rfl) rfl ?_ -- t14
    refine WL.on rfl rfl ?_
    refine WL.y (Yl.field fo138_1 rfl) rfl ?_ -- t15
    refine WL.on rfl rfl ?_
    refine WL.y (Yl.load on3 rfl (by repeat (first | exact Take1.head | apply Take1.tail)) (by rfl)) rfl ?_ -- t16
    refine WL.on rfl rfl ?_
    refine WL.y (Yl.lss rfl rfl) rfl ?_ -- t17
    refine WL.y (Yl.pickF rfl rfl) rfl ?_ -- t18
    refine WL.say (t := 18) (v' := .bool true) rfl (by (simp [g12] at hl0 ⊢; try exact hl0)) ?_
    refine WL.y (Yl.assign rfl) rfl ?_ -- t7
    refine WL.nil ?_
    refine WC.condT rfl (by first | rfl | (simp; done) | (simp; omega)) ?_
    refine WC.seq ?_
    refine WC.region ?_
    refine WL.y (Yl.assign rfl) rfl ?_ -- t2
    refine WL.y (Yl.assign rfl) rfl ?_ -- t3
    refine WL.nil ?_
    refine WC.ret ?_
    repeat (first | (with_reducible refine peelT ?_) | (with_reducible refine peelB ?_) | (with_reducible refine peelTX ?_) | (with_reducible refine peelBX ?_) | (with_reducible refine peelBN ?_) | (with_reducible refine peelBO rfl ?_))
    exact ret2 (.inr rfl) Tryz.results82 rfl rfl fun w' h => ⟨(), trivial, rfl, h.sub (by repeat (first | exact TakeL.nil | (apply TakeL.cons; · repeat (first | exact Take1.head | apply Take1.tail))))⟩
end Go.Proofs.YtmcdbjbkkejbbaaGreat
