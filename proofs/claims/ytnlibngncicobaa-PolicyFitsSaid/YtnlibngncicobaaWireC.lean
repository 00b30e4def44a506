/- Numbers of 32 and 16 bits, sized bytes: the walks. -/
import Derived.Test.YtnlibngncicobaaWireB
import Derived.Test.YtnlibngncicobaaLibY
namespace Go.Proofs.Ytnlibngncicobaa
open Go Go.RowKit
theorem number32_any (n : Int) (many : Nat) (hn : 0 ≤ n ∧ n < 4294967296) (hm : many ≤ 8) (w : World) (hw : OK w (fpL []) [] w) :
    Fn Try.prog 70 [.int .u32 n, .int .i64 (many : Int)] [] w (fun _ : Option Addr × Nat => True) (fun y => .slice y.1 many y.2) (fun y => [ownR (.slice y.1 many y.2) 5 1 many (ints .u8 (be n many))]) := by
  refine enterF Try.func70 rfl Try.ntmps70 rfl hw ?_
  refine WC.seq ?_
  refine WC.region ?_
  refine WL.y (Yl.assign rfl) rfl ?_ -- t4
  refine WL.nil ?_
  refine WC.seq ?_
  refine WC.region ?_
  refine WL.y (Yl.assign rfl) rfl ?_ -- t5
  refine WL.nil ?_
  refine WC.seq ?_
  refine WC.seq ?_
  refine WC.region ?_
  refine WL.y (Yl.move rfl) rfl ?_ -- t7
  refine WL.y (Yl.sub rfl rfl (IntWalk.i64_in _ (by omega))) rfl ?_ -- t8
  refine WL.say (t := 8) (v' := .int .i64 ((many : Int) - 1 - ((0 : Nat) : Int))) rfl (by (refine congrArg _ ?_; omega)) ?_
  refine WL.y (Yl.assign rfl) rfl ?_ -- t6
  refine WL.nil ?_
  refine WC.block ?_
  refine WC.view (fun w h => h.addNil 5 1) ?_
  refine WC.loop (α := Nat × (Option Addr × Nat)) (fun p => [(0, .int .u32 n), (5, .slice p.2.1 p.1 p.2.2), (6, .int .i64 ((many : Int) - 1 - (p.1 : Int)))]) (fun p => [ownR (.slice p.2.1 p.1 p.2.2) 5 1 p.1 (ints .u8 (beK n many p.1))]) (fun p => p.1 ≤ many) (fun p => many - p.1) (0, none, 0) (Nat.zero_le _) ⟨(by repeat (first | exact Sub.nil | refine Sub.cons rfl ?_)), _, (by repeat (first | exact TakeL.nil | (apply TakeL.cons; · repeat (first | exact Take1.head | apply Take1.tail))))⟩ ?_
  rintro ⟨k, ao, c⟩ hk
  dsimp only at hk ⊢
  have hp : (0 : Int) ≤ 2 ^ (8 * (many - 1 - k)) := Int.pow_nonneg (by decide)
  refine WC.seq ?_
  refine WC.seq ?_
  refine WC.region ?_
  refine WL.y (Yl.move rfl) rfl ?_ -- t9
  refine WL.y (Yl.geq rfl rfl) rfl ?_ -- t10
  refine WL.nil ?_
  refine WC.condD rfl (fun g10 => ?_) (fun g10 => ?_)
  · refine WC.skip ?_
    refine WC.seq ?_
    refine WC.block ?_
    refine WC.region ?_
    refine WL.y (Yl.move rfl) rfl ?_ -- t13
    refine WL.y (Yl.move rfl) rfl ?_ -- t14
    refine WL.y (Yl.conv un95 un25 rfl (u64_in _ (by omega))) rfl ?_ -- t15
    refine WL.y (Yl.move rfl) rfl ?_ -- t16
    refine WL.y (Yl.mul rfl rfl (IntWalk.i64_in _ (by omega))) rfl ?_ -- t17
    refine WL.y (Yl.shr rfl rfl ⟨by omega, (by simp [IntKind.bits]; try omega)⟩ rfl) rfl ?_ -- t18
    refine WL.y (Yl.conv un25 un5 rfl (be_byte n many k (by omega) hm)) rfl ?_ -- t19
    refine WL.to (To.buildSlice (vs := [.int .u8 (n / 2 ^ (8 * (many - 1 - k)) % 256)]) un55 zs5 rfl rfl (by simp [Value.cells]) (by decide) (by decide)) rfl ?_ -- t20
    intro b20
    refine WL.to (To.append sl55 rfl rfl (by repeat (first | exact Take1.head | apply Take1.tail)) (Reads.of (RdOf.blk (cs := [.int .u8 (n / 2 ^ (8 * (many - 1 - k)) % 256)]) (cs' := ints .u8 [n / 2 ^ (8 * (many - 1 - k)) % 256]) (Nat.le_refl _) (by unfold maxLen; omega) (by simp) rfl) (by repeat (first | exact Take1.head | apply Take1.tail))) (ints_one _ _) rfl (by rw [ints_append, ← beK_succ]) (by unfold maxLen; omega) (by omega)) rfl ?_ -- t21
    rintro ⟨⟨ao21, c21⟩, hc21⟩
    dsimp only at hc21 ⊢
    refine WL.y (Yl.assign rfl) rfl ?_ -- t5
    refine WL.nil ?_
    refine WC.region ?_
    refine WL.y (Yl.move rfl) rfl ?_ -- t11
    refine WL.y (Yl.sub rfl rfl (IntWalk.i64_in _ (by omega))) rfl ?_ -- t12
    refine WL.say (t := 12) (v' := .int .i64 ((many : Int) - 1 - ((k + 1 : Nat) : Int))) rfl (by (refine congrArg _ ?_; omega)) ?_
    refine WL.y (Yl.assign rfl) rfl ?_ -- t6
    refine WL.nil ?_
    exact ⟨rfl, (k + 1, ao21, c21), by dsimp only; omega, by dsimp only; omega, (by repeat (first | exact Sub.nil | refine Sub.cons rfl ?_)), _, (by repeat (first | exact TakeL.nil | (apply TakeL.cons; · repeat (first | exact Take1.head | apply Take1.tail))))⟩
  · refine WC.exit ?_
    refine WC.seq ?_
    refine WC.region ?_
    refine WL.y (Yl.move rfl) rfl ?_ -- t22
    refine WL.y (Yl.assign rfl) rfl ?_ -- t4
    refine WL.nil ?_
    refine WC.ret ?_
    repeat (first | (with_reducible refine peelT ?_) | (with_reducible refine peelB ?_) | (with_reducible refine peelTX ?_) | (with_reducible refine peelBX ?_) | (with_reducible refine peelBN ?_) | (with_reducible refine peelBO rfl ?_))
    have hkm : k = many := by omega
    subst hkm
    exact ret1 (.inr rfl) Try.results70 rfl fun w' h => ⟨(ao, c), trivial, rfl, h.sub (by repeat (first | exact TakeL.nil | (apply TakeL.cons; · repeat (first | exact Take1.head | apply Take1.tail))))⟩

theorem number16_any (n : Int) (many : Nat) (hn : 0 ≤ n ∧ n < 65536) (hm : many ≤ 8) (w : World) (hw : OK w (fpL []) [] w) :
    Fn Try.prog 76 [.int .u16 n, .int .i64 (many : Int)] [] w (fun _ : Option Addr × Nat => True) (fun y => .slice y.1 many y.2) (fun y => [ownR (.slice y.1 many y.2) 5 1 many (ints .u8 (be n many))]) := by
  refine enterF Try.func76 rfl Try.ntmps76 rfl hw ?_
  refine WC.seq ?_
  refine WC.region ?_
  refine WL.y (Yl.assign rfl) rfl ?_ -- t4
  refine WL.nil ?_
  refine WC.seq ?_
  refine WC.region ?_
  refine WL.y (Yl.assign rfl) rfl ?_ -- t5
  refine WL.nil ?_
  refine WC.seq ?_
  refine WC.seq ?_
  refine WC.region ?_
  refine WL.y (Yl.move rfl) rfl ?_ -- t7
  refine WL.y (Yl.sub rfl rfl (IntWalk.i64_in _ (by omega))) rfl ?_ -- t8
  refine WL.say (t := 8) (v' := .int .i64 ((many : Int) - 1 - ((0 : Nat) : Int))) rfl (by (refine congrArg _ ?_; omega)) ?_
  refine WL.y (Yl.assign rfl) rfl ?_ -- t6
  refine WL.nil ?_
  refine WC.block ?_
  refine WC.view (fun w h => h.addNil 5 1) ?_
  refine WC.loop (α := Nat × (Option Addr × Nat)) (fun p => [(0, .int .u16 n), (5, .slice p.2.1 p.1 p.2.2), (6, .int .i64 ((many : Int) - 1 - (p.1 : Int)))]) (fun p => [ownR (.slice p.2.1 p.1 p.2.2) 5 1 p.1 (ints .u8 (beK n many p.1))]) (fun p => p.1 ≤ many) (fun p => many - p.1) (0, none, 0) (Nat.zero_le _) ⟨(by repeat (first | exact Sub.nil | refine Sub.cons rfl ?_)), _, (by repeat (first | exact TakeL.nil | (apply TakeL.cons; · repeat (first | exact Take1.head | apply Take1.tail))))⟩ ?_
  rintro ⟨k, ao, c⟩ hk
  dsimp only at hk ⊢
  have hp : (0 : Int) ≤ 2 ^ (8 * (many - 1 - k)) := Int.pow_nonneg (by decide)
  refine WC.seq ?_
  refine WC.seq ?_
  refine WC.region ?_
  refine WL.y (Yl.move rfl) rfl ?_ -- t9
  refine WL.y (Yl.geq rfl rfl) rfl ?_ -- t10
  refine WL.nil ?_
  refine WC.condD rfl (fun g10 => ?_) (fun g10 => ?_)
  · refine WC.skip ?_
    refine WC.seq ?_
    refine WC.block ?_
    refine WC.region ?_
    refine WL.y (Yl.move rfl) rfl ?_ -- t13
    refine WL.y (Yl.move rfl) rfl ?_ -- t14
    refine WL.y (Yl.conv un22 un25 rfl (u64_in _ (by omega))) rfl ?_ -- t15
    refine WL.y (Yl.move rfl) rfl ?_ -- t16
    refine WL.y (Yl.mul rfl rfl (IntWalk.i64_in _ (by omega))) rfl ?_ -- t17
    refine WL.y (Yl.shr rfl rfl ⟨by omega, (by simp [IntKind.bits]; try omega)⟩ rfl) rfl ?_ -- t18
    refine WL.y (Yl.conv un25 un5 rfl (be_byte n many k (by omega) hm)) rfl ?_ -- t19
    refine WL.to (To.buildSlice (vs := [.int .u8 (n / 2 ^ (8 * (many - 1 - k)) % 256)]) un55 zs5 rfl rfl (by simp [Value.cells]) (by decide) (by decide)) rfl ?_ -- t20
    intro b20
    refine WL.to (To.append sl55 rfl rfl (by repeat (first | exact Take1.head | apply Take1.tail)) (Reads.of (RdOf.blk (cs := [.int .u8 (n / 2 ^ (8 * (many - 1 - k)) % 256)]) (cs' := ints .u8 [n / 2 ^ (8 * (many - 1 - k)) % 256]) (Nat.le_refl _) (by unfold maxLen; omega) (by simp) rfl) (by repeat (first | exact Take1.head | apply Take1.tail))) (ints_one _ _) rfl (by rw [ints_append, ← beK_succ]) (by unfold maxLen; omega) (by omega)) rfl ?_ -- t21
    rintro ⟨⟨ao21, c21⟩, hc21⟩
    dsimp only at hc21 ⊢
    refine WL.y (Yl.assign rfl) rfl ?_ -- t5
    refine WL.nil ?_
    refine WC.region ?_
    refine WL.y (Yl.move rfl) rfl ?_ -- t11
    refine WL.y (Yl.sub rfl rfl (IntWalk.i64_in _ (by omega))) rfl ?_ -- t12
    refine WL.say (t := 12) (v' := .int .i64 ((many : Int) - 1 - ((k + 1 : Nat) : Int))) rfl (by (refine congrArg _ ?_; omega)) ?_
    refine WL.y (Yl.assign rfl) rfl ?_ -- t6
    refine WL.nil ?_
    exact ⟨rfl, (k + 1, ao21, c21), by dsimp only; omega, by dsimp only; omega, (by repeat (first | exact Sub.nil | refine Sub.cons rfl ?_)), _, (by repeat (first | exact TakeL.nil | (apply TakeL.cons; · repeat (first | exact Take1.head | apply Take1.tail))))⟩
  · refine WC.exit ?_
    refine WC.seq ?_
    refine WC.region ?_
    refine WL.y (Yl.move rfl) rfl ?_ -- t22
    refine WL.y (Yl.assign rfl) rfl ?_ -- t4
    refine WL.nil ?_
    refine WC.ret ?_
    repeat (first | (with_reducible refine peelT ?_) | (with_reducible refine peelB ?_) | (with_reducible refine peelTX ?_) | (with_reducible refine peelBX ?_) | (with_reducible refine peelBN ?_) | (with_reducible refine peelBO rfl ?_))
    have hkm : k = many := by omega
    subst hkm
    exact ret1 (.inr rfl) Try.results76 rfl fun w' h => ⟨(ao, c), trivial, rfl, h.sub (by repeat (first | exact TakeL.nil | (apply TakeL.cons; · repeat (first | exact Take1.head | apply Take1.tail))))⟩

def b4 (l : List Int) : List (List Int) := l.map (be · 4)

theorem outU32_any (b : Nat) (x : Option Addr × Nat) (lim : Int) (bs : List Int) (wr : Bool) (l : List Int) (lv : Value) (hlo : -9223372036854775808 ≤ lim ∧ lim ≤ 9223372036854775807) (hf : Fit lim (bs, wr)) (hsz : bs.length + total (b4 l) ≤ 140737488355328) (hl : ∀ x ∈ l, 0 ≤ x ∧ x < 4294967296) (w : World)
    (hx : RdS w (fpL (oR b x lim bs wr)) lv 1 l.length (ints .u32 l)) (hw : OK w (fpL (oR b x lim bs wr)) (oR b x lim bs wr) w) :
    Fn Try.prog 53 [.pointer (some ⟨b, 0, none⟩), lv] (oR b x lim bs wr) w (fun _ : Option Addr × Nat => True) (fun _ => .tuple #[]) (fun y => oR b y lim (pts lim (bs, wr) (b4 l)).1 (pts lim (bs, wr) (b4 l)).2) := by
  obtain ⟨al, cl, rfl, hcl, hml⟩ := hx.rd.form
  unfold maxLen at hml
  refine enterF Try.func53 rfl Try.ntmps53 rfl hw ?_
  refine WC.seq ?_
  refine WC.region ?_
  refine WL.y (Yl.move rfl) rfl ?_ -- t6
  refine WL.y (Yl.len un123 rfl) rfl ?_ -- t7
  refine WL.y (Yl.move rfl) rfl ?_ -- t8
  refine WL.nil ?_
  refine WC.block ?_
  refine WC.loop (α := Nat × (Option Addr × Nat)) (fun p => [(0, .pointer (some ⟨b, 0, none⟩)), (6, .slice al l.length cl), (7, .int .i64 (l.length : Int)), (8, .int .i64 (p.1 : Int))]) (fun p => oR b p.2 lim (pts lim (bs, wr) ((b4 l).take p.1)).1 (pts lim (bs, wr) ((b4 l).take p.1)).2) (fun p => p.1 ≤ l.length) (fun p => l.length - p.1) (0, x) (Nat.zero_le _) ⟨(by repeat (first | exact Sub.nil | refine Sub.cons rfl ?_)), _, (by repeat (first | exact TakeL.nil | (apply TakeL.cons; · repeat (first | exact Take1.head | apply Take1.tail))))⟩ ?_
  rintro ⟨j, y⟩ hj
  dsimp only at hj ⊢
  refine WC.seq ?_
  refine WC.region ?_
  refine WL.y (Yl.lss rfl rfl) rfl ?_ -- t9
  refine WL.nil ?_
  refine WC.seq ?_
  refine WC.condD rfl (fun g9 => ?_) (fun g9 => ?_)
  · refine WC.skip ?_
    refine WC.seq ?_
    refine WC.block ?_
    refine WC.seq ?_
    refine WC.region ?_
    have hjl : j < l.length := by omega
    have hn := hl _ (List.mem_of_getElem? (getD_of hjl))
    have hb : (b4 l)[j]? = some (be (l.getD j 0) 4) := by simp [b4, hjl]
    have hq := total_take hb
    rw [be_len] at hq
    have hq2 := pts_len (lim := lim) ((b4 l).take j) (bs, wr)
    dsimp only at hq2
    have hq3 := pts_fit ((b4 l).take j) hf
    have hq4 : pts lim (bs, wr) ((b4 l).take (j + 1)) = pt lim (pts lim (bs, wr) ((b4 l).take j)) (be (l.getD j 0) 4) := by rw [← take_snoc _ _ _ hb, pts_snoc]
    generalize pts lim (bs, wr) ((b4 l).take j) = s at hq2 hq3 hq4 ⊢
    obtain ⟨sb, sw⟩ := s
    dsimp only at hq2 ⊢
    refine WL.y (Yl.index un123 sz95 rfl rfl (Reads.s hx) rfl (by omega)) rfl ?_ -- t10
    refine WL.y (Yl.loadE on95 rfl (Reads.s hx) (ints_get .u32 l j (by omega))) rfl ?_ -- t11
    refine WL.y (Yl.assign rfl) rfl ?_ -- t5
    refine WL.nil ?_
    refine WC.region ?_
    refine WL.y (Yl.move rfl) rfl ?_ -- t12
    refine WL.y (Yl.move rfl) rfl ?_ -- t13
    refine WL.callC (xs := [.tmp 13, _]) (cap := []) rfl rfl en70 (by repeat (first | exact TakeL.nil | (apply TakeL.cons; · repeat (first | exact Take1.head | apply Take1.tail)))) (fun w hw => number32_any (l.getD j 0) 4 hn (by omega) w hw.left.here) rfl ?_ -- t14 hailer/wire.number[uint32]
    intro z _
    refine WL.callC (xs := [.tmp 12, .tmp 14]) (cap := []) rfl rfl en68 (by repeat (first | exact TakeL.nil | (apply TakeL.cons; · repeat (first | exact Take1.head | apply Take1.tail)))) (fun w hw => put_any b y lim sb sw (be (l.getD j 0) 4) (.slice z.1 4 z.2) hlo hq3 (by rw [be_len]; omega) w (hw.src RdOf.own (by repeat (first | exact Take1.head | apply Take1.tail))) hw.left.here) rfl ?_ -- t15 (*hailer/wire.Out).put
    intro y2 _
    refine WL.nil ?_
    refine WC.region ?_
    refine WL.y (Yl.add rfl rfl (IntWalk.i64_in _ (by omega))) rfl ?_ -- t16
    refine WL.y (Yl.move rfl) rfl ?_ -- t8
    refine WL.nil ?_
    refine ⟨rfl, (j + 1, y2), by dsimp only; omega, by dsimp only; omega, (by repeat (first | exact Sub.nil | refine Sub.cons rfl ?_)), _, (by dsimp only; rw [hq4]; exact (by repeat (first | exact TakeL.nil | (apply TakeL.cons; · repeat (first | exact Take1.head | apply Take1.tail)))))⟩
  · refine WC.exit ?_
    repeat (first | (with_reducible refine peelT ?_) | (with_reducible refine peelB ?_) | (with_reducible refine peelTX ?_) | (with_reducible refine peelBX ?_) | (with_reducible refine peelBN ?_) | (with_reducible refine peelBO rfl ?_))
    have hj2 : j = (b4 l).length := by simp [b4]; omega
    exact ret0 (.inl rfl) rfl fun w' h => ⟨y, trivial, rfl, by rw [hj2, List.take_length] at h; exact h.sub (by repeat (first | exact TakeL.nil | (apply TakeL.cons; · repeat (first | exact Take1.head | apply Take1.tail))))⟩

/-- How many there are, put. -/
def mny (lim : Int) (s : List Int × Bool) (most : Int) (n : Nat) : List Int × Bool := pt lim (s.1, s.2 || decide ((if (65535 : Int) < most then 65535 else most) < (n : Int))) (be (IntKind.u16.wrap (n : Int)) 2)
theorem pt_true (lim : Int) (bs xs : List Int) : pt lim (bs, true) xs = (bs, true) := pt_no (by simp)
theorem u16_rng (n : Int) : 0 ≤ IntKind.u16.wrap n ∧ IntKind.u16.wrap n < 65536 := by
  have e : IntKind.u16.wrap n = n % 65536 := by simp [IntKind.wrap, IntKind.bits, IntKind.signed]
  omega

theorem outMany_any (b : Nat) (x : Option Addr × Nat) (lim : Int) (bs : List Int) (wr : Bool) (most : Int) (n : Nat) (hlo : -9223372036854775808 ≤ lim ∧ lim ≤ 9223372036854775807) (hf : Fit lim (bs, wr)) (hsz : bs.length + 2 ≤ 140737488355328) (w : World)
    (hw : OK w (fpL (oR b x lim bs wr)) (oR b x lim bs wr) w) :
    Fn Try.prog 69 [.pointer (some ⟨b, 0, none⟩), .int .i64 most, .int .i64 (n : Int)] (oR b x lim bs wr) w (fun _ : Option Addr × Nat => True) (fun _ => .bool (!(mny lim (bs, wr) most n).2)) (fun y => oR b y lim (mny lim (bs, wr) most n).1 (mny lim (bs, wr) most n).2) := by
  refine enterF Try.func69 rfl Try.ntmps69 rfl hw ?_
  refine WC.seq ?_
  refine WC.region ?_
  refine WL.y (Yl.assign rfl) rfl ?_ -- t6
  refine WL.nil ?_
  refine WC.seq ?_
  refine WC.seq ?_
  refine WC.region ?_
  refine WL.y (Yl.move rfl) rfl ?_ -- t7
  refine WL.y (Yl.nilEq un99 rfl rfl) rfl ?_ -- t8
  refine WL.know (t := 8) (b' := false) rfl (by first | rfl | (simp; done) | (simp; omega)) ?_
  refine WL.nil ?_
  refine WC.condF rfl (by first | rfl | (simp; done) | (simp; omega)) ?_
  refine WC.skip ?_
  refine WC.midK [] (oR b x lim bs (wr || decide ((if (65535 : Int) < most then 65535 else most) < (n : Int)))) ?_ ?_
  · refine WC.region ?_
    refine WL.y (Yl.move rfl) rfl ?_ -- t9
    refine WL.y (Yl.move rfl) rfl ?_ -- t10
    refine WL.y (Yl.nilCheck rfl) rfl ?_ -- t11
    refine WL.y (Yl.field fo121_2 rfl) rfl ?_ -- t12
    refine WL.y (Yl.load on4 rfl (by repeat (first | exact Take1.head | apply Take1.tail)) (by rfl)) rfl ?_ -- t13
    refine WL.y (Yl.move rfl) rfl ?_ -- t14
    refine WL.both (t := 14) rfl (fun g14 => ?_) (fun g14 => ?_)
    · refine WL.off rfl rfl rfl rfl ?_ -- t15
      refine WL.off rfl rfl rfl rfl ?_ -- t16
      refine WL.off rfl rfl rfl rfl ?_ -- t17
      refine WL.off rfl rfl rfl rfl ?_ -- t18
      refine WL.y (Yl.pickT rfl rfl) rfl ?_ -- t19
      refine WL.say (t := 19) (v' := .bool (wr || decide ((if (65535 : Int) < most then 65535 else most) < (n : Int)))) rfl (by first | (rw [g14]; rfl) | (rw [g14, Bool.false_or])) ?_
      refine WL.y (Yl.nilCheck rfl) rfl ?_ -- t20
      refine WL.y (Yl.field fo121_2 rfl) rfl ?_ -- t21
      refine WL.sto (Sto.one sz4 rfl rfl (by repeat (first | exact Take1.head | apply Take1.tail)) rfl (by rfl) (by rfl)) (fun _ h => nomatch h) ?_ -- st 1
      refine WL.nil ?_
      exact ⟨rfl, (by repeat (first | exact Sub.nil | refine Sub.cons rfl ?_)), (by repeat (first | exact Sub.nil | refine Sub.cons rfl ?_)), _, (by repeat (first | exact TakeL.nil | (apply TakeL.cons; · repeat (first | exact Take1.head | apply Take1.tail))))⟩
    · refine WL.on rfl rfl ?_
      refine WL.y (Yl.move rfl) rfl ?_ -- t15
      refine WL.on rfl rfl ?_
      refine WL.y (Yl.move rfl) rfl ?_ -- t16
      refine WL.on rfl rfl ?_
      refine WL.y (Yl.min2 rfl rfl) rfl ?_ -- t17
      refine WL.on rfl rfl ?_
      refine WL.y (Yl.gtr rfl rfl) rfl ?_ -- t18
      refine WL.y (Yl.pickF rfl rfl) rfl ?_ -- t19
      refine WL.say (t := 19) (v' := .bool (wr || decide ((if (65535 : Int) < most then 65535 else most) < (n : Int)))) rfl (by first | (rw [g14]; rfl) | (rw [g14, Bool.false_or])) ?_
      refine WL.y (Yl.nilCheck rfl) rfl ?_ -- t20
      refine WL.y (Yl.field fo121_2 rfl) rfl ?_ -- t21
      refine WL.sto (Sto.one sz4 rfl rfl (by repeat (first | exact Take1.head | apply Take1.tail)) rfl (by rfl) (by rfl)) (fun _ h => nomatch h) ?_ -- st 1
      refine WL.nil ?_
      exact ⟨rfl, (by repeat (first | exact Sub.nil | refine Sub.cons rfl ?_)), (by repeat (first | exact Sub.nil | refine Sub.cons rfl ?_)), _, (by repeat (first | exact TakeL.nil | (apply TakeL.cons; · repeat (first | exact Take1.head | apply Take1.tail))))⟩
  · refine WC.seq ?_
    refine WC.region ?_
    refine WL.y (Yl.move rfl) rfl ?_ -- t22
    refine WL.y (Yl.move rfl) rfl ?_ -- t23
    refine WL.y (Yl.conv un3 un22 rfl rfl) rfl ?_ -- t24
    refine WL.callC (xs := [.tmp 24, _]) (cap := []) rfl rfl en76 (by repeat (first | exact TakeL.nil | (apply TakeL.cons; · repeat (first | exact Take1.head | apply Take1.tail)))) (fun w hw => number16_any _ 2 (u16_rng _) (by omega) w hw.left.here) rfl ?_ -- t25 hailer/wire.number[uint16]
    intro z _
    refine WL.callC (xs := [.tmp 22, .tmp 25]) (cap := []) rfl rfl en68 (by repeat (first | exact TakeL.nil | (apply TakeL.cons; · repeat (first | exact Take1.head | apply Take1.tail)))) (fun w hw => put_any b x lim bs (wr || decide ((if (65535 : Int) < most then 65535 else most) < (n : Int))) (be (IntKind.u16.wrap (n : Int)) 2) (.slice z.1 2 z.2) hlo hf (by rw [be_len]; omega) w (hw.src RdOf.own (by repeat (first | exact Take1.head | apply Take1.tail))) hw.left.here) rfl ?_ -- t26 (*hailer/wire.Out).put
    intro y2 _
    refine WL.nil ?_
    refine WC.seq ?_
    refine WC.region ?_
    refine WL.y (Yl.move rfl) rfl ?_ -- t27
    refine WL.y (Yl.nilCheck rfl) rfl ?_ -- t28
    refine WL.y (Yl.field fo121_2 rfl) rfl ?_ -- t29
    refine WL.y (Yl.load on4 rfl (by repeat (first | exact Take1.head | apply Take1.tail)) (by rfl)) rfl ?_ -- t30
    refine WL.y (Yl.not rfl) rfl ?_ -- t31
    refine WL.y (Yl.assign rfl) rfl ?_ -- t6
    refine WL.nil ?_
    refine WC.ret ?_
    repeat (first | (with_reducible refine peelT ?_) | (with_reducible refine peelB ?_) | (with_reducible refine peelTX ?_) | (with_reducible refine peelBX ?_) | (with_reducible refine peelBN ?_) | (with_reducible refine peelBO rfl ?_))
    exact ret1 (.inr rfl) Try.results69 rfl fun w' h => ⟨y2, trivial, rfl, h.sub (by repeat (first | exact TakeL.nil | (apply TakeL.cons; · repeat (first | exact Take1.head | apply Take1.tail))))⟩

theorem inU32_any (b : Nat) (ao : Option Addr) (cap : Nat) (bs : List Int) (wr : Bool) (r : Res) (hr : RdOf r (.slice ao bs.length cap) 1 bs.length (ints .u8 bs)) (hc : bs.length ≤ cap) (hB : Bytes bs) (w : World) (hw : OK w (fpL [inR b (.slice ao bs.length cap) wr, r]) [inR b (.slice ao bs.length cap) wr, r] w) :
    Fn Try.prog 46 [.pointer (some ⟨b, 0, none⟩)] [inR b (.slice ao bs.length cap) wr, r] w (NxΦ r 4 bs wr) (fun _ => .int .u32 (val (tkR 4 bs wr))) (fun x => [inR b (.slice x.1 (tkB 4 bs wr).length x.2) (tkW 4 bs wr), r]) := by
  have hv := val_range (hB.tkR 4 wr)
  have hT := tkR_len 4 bs wr
  have hp : (256 : Int) ^ (tkR 4 bs wr).length ≤ 4294967296 := by
    have : (tkR 4 bs wr).length = 0 ∨ (tkR 4 bs wr).length = 1 ∨ (tkR 4 bs wr).length = 2 ∨ (tkR 4 bs wr).length = 3 ∨ (tkR 4 bs wr).length = 4 := by omega
    rcases this with h | h | h | h | h <;> rw [h] <;> decide
  refine enterF Try.func46 rfl Try.ntmps46 rfl hw ?_
  refine WC.seq ?_
  refine WC.region ?_
  refine WL.y (Yl.assign rfl) rfl ?_ -- t2
  refine WL.nil ?_
  refine WC.seq ?_
  refine WC.region ?_
  refine WL.y (Yl.move rfl) rfl ?_ -- t3
  refine WL.callC (xs := [.tmp 3, _]) (cap := []) rfl rfl en66 (by repeat (first | exact TakeL.nil | (apply TakeL.cons; · repeat (first | exact Take1.head | apply Take1.tail)))) (fun w hw => next_any b ao cap 4 bs wr r hr hc hB (by omega) w hw.left.here) rfl ?_ -- t4 (*hailer/wire.In).next
  intro x hx
  refine WL.y (Yl.conv un25 un95 rfl (show IntKind.u32.wrap (val (tkR 4 bs wr)) = val (tkR 4 bs wr) by rw [IntKind.wrap_u32]; omega)) rfl ?_ -- t5
  refine WL.y (Yl.assign rfl) rfl ?_ -- t2
  refine WL.nil ?_
  refine WC.ret ?_
  repeat (first | (with_reducible refine peelT ?_) | (with_reducible refine peelB ?_) | (with_reducible refine peelTX ?_) | (with_reducible refine peelBX ?_) | (with_reducible refine peelBN ?_) | (with_reducible refine peelBO rfl ?_))
  exact ret1 (.inr rfl) Try.results46 rfl fun w' h => ⟨x, hx, rfl, h.sub (by repeat (first | exact TakeL.nil | (apply TakeL.cons; · repeat (first | exact Take1.head | apply Take1.tail))))⟩

/-- How many there are, taken: whether it is wrong then. -/
def mnW (bs : List Int) (wr : Bool) (most : Int) : Bool := tkW 2 bs wr || decide (most < val (tkR 2 bs wr))
theorem val2 {bs : List Int} (h : Bytes bs) (wr : Bool) : 0 ≤ val (tkR 2 bs wr) ∧ val (tkR 2 bs wr) < 65536 := by
  have hv := val_range (h.tkR 2 wr)
  have hT := tkR_len 2 bs wr
  have : (tkR 2 bs wr).length = 0 ∨ (tkR 2 bs wr).length = 1 ∨ (tkR 2 bs wr).length = 2 := by omega
  rcases this with h | h | h <;> rw [h] at hv <;> simp at hv <;> omega

theorem inMany_any (b : Nat) (ao : Option Addr) (cap : Nat) (bs : List Int) (wr : Bool) (most : Int) (r : Res) (hr : RdOf r (.slice ao bs.length cap) 1 bs.length (ints .u8 bs)) (hc : bs.length ≤ cap) (hB : Bytes bs) (w : World) (hw : OK w (fpL [inR b (.slice ao bs.length cap) wr, r]) [inR b (.slice ao bs.length cap) wr, r] w) :
    Fn Try.prog 67 [.pointer (some ⟨b, 0, none⟩), .int .i64 most] [inR b (.slice ao bs.length cap) wr, r] w (NxΦ r 2 bs wr) (fun _ => .int .i64 (if mnW bs wr most then -1 else val (tkR 2 bs wr))) (fun x => [inR b (.slice x.1 (tkB 2 bs wr).length x.2) (mnW bs wr most), r]) := by
  have hv := val2 hB wr
  refine enterF Try.func67 rfl Try.ntmps67 rfl hw ?_
  refine WC.seq ?_
  refine WC.region ?_
  refine WL.y (Yl.assign rfl) rfl ?_ -- t4
  refine WL.nil ?_
  refine WC.seq ?_
  refine WC.region ?_
  refine WL.y (Yl.move rfl) rfl ?_ -- t6
  refine WL.callC (xs := [.tmp 6, _]) (cap := []) rfl rfl en66 (by repeat (first | exact TakeL.nil | (apply TakeL.cons; · repeat (first | exact Take1.head | apply Take1.tail)))) (fun w hw => next_any b ao cap 2 bs wr r hr hc hB (by omega) w hw.left.here) rfl ?_ -- t7 (*hailer/wire.In).next
  intro x hx
  refine WL.y (Yl.conv un25 un3 rfl (IntWalk.i64_in _ (by omega))) rfl ?_ -- t8
  refine WL.y (Yl.assign rfl) rfl ?_ -- t5
  refine WL.nil ?_
  refine WC.seq ?_
  refine WC.seq ?_
  refine WC.region ?_
  refine WL.y (Yl.move rfl) rfl ?_ -- t9
  refine WL.y (Yl.nilNe un91 rfl rfl) rfl ?_ -- t10
  refine WL.know (t := 10) (b' := true) rfl (by first | rfl | (simp; done) | (simp; omega)) ?_
  refine WL.y (Yl.move rfl) rfl ?_ -- t11
  refine WL.on rfl rfl ?_
  refine WL.y (Yl.move rfl) rfl ?_ -- t12
  refine WL.on rfl rfl ?_
  refine WL.y (Yl.move rfl) rfl ?_ -- t13
  refine WL.on rfl rfl ?_
  refine WL.y (Yl.gtr rfl rfl) rfl ?_ -- t14
  refine WL.y (Yl.pickT rfl rfl) rfl ?_ -- t15
  refine WL.nil ?_
  refine WC.condD rfl (fun g15 => ?_) (fun g15 => ?_)
  · refine WC.region ?_
    refine WL.y (Yl.move rfl) rfl ?_ -- t16
    refine WL.y (Yl.nilCheck rfl) rfl ?_ -- t17
    refine WL.y (Yl.field fo117_1 rfl) rfl ?_ -- t18
    refine WL.sto (Sto.one sz4 rfl rfl (by repeat (first | exact Take1.head | apply Take1.tail)) rfl (by rfl) (by rfl)) (fun _ h => nomatch h) ?_ -- st 1
    refine WL.nil ?_
    refine WC.seq ?_
    refine WC.seq ?_
    refine WC.region ?_
    refine WL.y (Yl.move rfl) rfl ?_ -- t19
    refine WL.y (Yl.nilEq un91 rfl rfl) rfl ?_ -- t20
    refine WL.know (t := 20) (b' := false) rfl (by first | rfl | (simp; done) | (simp; omega)) ?_
    refine WL.y (Yl.move rfl) rfl ?_ -- t21
    refine WL.on rfl rfl ?_
    refine WL.y (Yl.move rfl) rfl ?_ -- t22
    refine WL.on rfl rfl ?_
    refine WL.y (Yl.nilCheck rfl) rfl ?_ -- t23
    refine WL.on rfl rfl ?_
    refine WL.y (Yl.field fo117_1 rfl) rfl ?_ -- t24
    refine WL.on rfl rfl ?_
    refine WL.y (Yl.load on4 rfl (by repeat (first | exact Take1.head | apply Take1.tail)) (by rfl)) rfl ?_ -- t25
    refine WL.say (t := 25) (v' := .bool (mnW bs wr most)) rfl (by (show Value.bool true = _; unfold mnW; rw [decide_eq_true g15, Bool.or_true])) ?_
    refine WL.y (Yl.pickF rfl rfl) rfl ?_ -- t26
    refine WL.nil ?_
    refine WC.cond rfl (fun g26 => ?_) (fun g26 => ?_)
    · refine WC.seq ?_
      refine WC.region ?_
      refine WL.y (Yl.assign rfl) rfl ?_ -- t4
      refine WL.nil ?_
      refine WC.ret ?_
      repeat (first | (with_reducible refine peelT ?_) | (with_reducible refine peelB ?_) | (with_reducible refine peelTX ?_) | (with_reducible refine peelBX ?_) | (with_reducible refine peelBN ?_) | (with_reducible refine peelBO rfl ?_))
      rw [g26, if_pos rfl]
      exact ret1 (.inr rfl) Try.results67 rfl fun w' h => ⟨x, hx, rfl, h.sub (by repeat (first | exact TakeL.nil | (apply TakeL.cons; · repeat (first | exact Take1.head | apply Take1.tail))))⟩
    · refine WC.skip ?_
      refine WC.seq ?_
      refine WC.region ?_
      refine WL.y (Yl.move rfl) rfl ?_ -- t27
      refine WL.y (Yl.assign rfl) rfl ?_ -- t4
      refine WL.nil ?_
      refine WC.ret ?_
      repeat (first | (with_reducible refine peelT ?_) | (with_reducible refine peelB ?_) | (with_reducible refine peelTX ?_) | (with_reducible refine peelBX ?_) | (with_reducible refine peelBN ?_) | (with_reducible refine peelBO rfl ?_))
      exact absurd g26 (by unfold mnW; rw [decide_eq_true g15]; simp)
  · refine WC.skip ?_
    refine WC.seq ?_
    refine WC.seq ?_
    refine WC.region ?_
    refine WL.y (Yl.move rfl) rfl ?_ -- t19
    refine WL.y (Yl.nilEq un91 rfl rfl) rfl ?_ -- t20
    refine WL.know (t := 20) (b' := false) rfl (by first | rfl | (simp; done) | (simp; omega)) ?_
    refine WL.y (Yl.move rfl) rfl ?_ -- t21
    refine WL.on rfl rfl ?_
    refine WL.y (Yl.move rfl) rfl ?_ -- t22
    refine WL.on rfl rfl ?_
    refine WL.y (Yl.nilCheck rfl) rfl ?_ -- t23
    refine WL.on rfl rfl ?_
    refine WL.y (Yl.field fo117_1 rfl) rfl ?_ -- t24
    refine WL.on rfl rfl ?_
    refine WL.y (Yl.load on4 rfl (by repeat (first | exact Take1.head | apply Take1.tail)) (by rfl)) rfl ?_ -- t25
    refine WL.say (t := 25) (v' := .bool (mnW bs wr most)) rfl (by (unfold mnW; rw [decide_eq_false g15, Bool.or_false])) ?_
    refine WL.y (Yl.pickF rfl rfl) rfl ?_ -- t26
    refine WL.nil ?_
    refine WC.cond rfl (fun g26 => ?_) (fun g26 => ?_)
    · refine WC.seq ?_
      refine WC.region ?_
      refine WL.y (Yl.assign rfl) rfl ?_ -- t4
      refine WL.nil ?_
      refine WC.ret ?_
      repeat (first | (with_reducible refine peelT ?_) | (with_reducible refine peelB ?_) | (with_reducible refine peelTX ?_) | (with_reducible refine peelBX ?_) | (with_reducible refine peelBN ?_) | (with_reducible refine peelBO rfl ?_))
      have e : mnW bs wr most = tkW 2 bs wr := by unfold mnW; rw [decide_eq_false g15, Bool.or_false]
      rw [e] at g26 ⊢
      rw [if_pos g26]
      exact ret1 (.inr rfl) Try.results67 rfl fun w' h => ⟨x, hx, rfl, h.sub (by repeat (first | exact TakeL.nil | (apply TakeL.cons; · repeat (first | exact Take1.head | apply Take1.tail))))⟩
    · refine WC.skip ?_
      refine WC.seq ?_
      refine WC.region ?_
      refine WL.y (Yl.move rfl) rfl ?_ -- t27
      refine WL.y (Yl.assign rfl) rfl ?_ -- t4
      refine WL.nil ?_
      refine WC.ret ?_
      repeat (first | (with_reducible refine peelT ?_) | (with_reducible refine peelB ?_) | (with_reducible refine peelTX ?_) | (with_reducible refine peelBX ?_) | (with_reducible refine peelBN ?_) | (with_reducible refine peelBO rfl ?_))
      have e : mnW bs wr most = tkW 2 bs wr := by unfold mnW; rw [decide_eq_false g15, Bool.or_false]
      rw [e] at g26 ⊢
      rw [if_neg (by rw [g26]; simp)]
      exact ret1 (.inr rfl) Try.results67 rfl fun w' h => ⟨x, hx, rfl, h.sub (by repeat (first | exact TakeL.nil | (apply TakeL.cons; · repeat (first | exact Take1.head | apply Take1.tail))))⟩

/-- Sized bytes, taken: how many. -/
def szK (bs : List Int) (wr : Bool) : Nat := (val (tkR 2 bs wr)).toNat
theorem tkR_true (k : Nat) (bs : List Int) : tkR k bs true = [] := by simp [tkR, tkOk]
theorem tkB_true (k : Nat) (bs : List Int) : tkB k bs true = bs := by simp [tkB, tkOk]
theorem tkW_true (k : Nat) (bs : List Int) : tkW k bs true = true := by simp [tkW, tkOk]
end Go.Proofs.Ytnlibngncicobaa
