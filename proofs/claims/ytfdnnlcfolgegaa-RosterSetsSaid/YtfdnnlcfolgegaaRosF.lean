/- Rosters: made, looked at; the reference's small functions, sets: the walks. -/
import Derived.Test.YtfdnnlcfolgegaaRosQ
namespace Go.Proofs.Ytfdnnlcfolgegaa
open Go Go.RowKit

def nwMs (d : Dv) : List Dv := if d.big then [] else [d]
def nwRs (g : List Int) (d : Dv) (y : Value) : Rs := if d.big then Rs.zero else ⟨g, 1, y⟩
def nwE (d : Dv) : Int := if d.big then 2 else 0
theorem new_any (g : List Int) (hg : g.length = 16) (d : Dv) (w : World) (hw : OK w (fpL []) [] w) :
    Fn Try.prog 13 [.agg (ints .u8 g).toArray, d.val] [] w IsSl (fun y => .tuple #[.agg (nwRs g d y).cells.toArray, .int .i64 (nwE d)]) (fun y => [ownR y 31 2 (nwMs d).length (vcs Dv.val (nwMs d))]) := by
  refine enterF Try.func13 rfl Try.ntmps13 rfl hw ?_
  refine WC.seq ?_
  refine WC.region ?_
  refine WL.to (To.box (cs := ints .u8 g) rfl rfl) rfl ?_ -- t2
  intro b2
  refine WL.to (To.box (cs := d.cells) rfl rfl) rfl ?_ -- t3
  intro b3
  refine WL.to (To.alloc (cs := Rs.zero.cells) zr27 rfl) rfl ?_ -- t4
  intro b4
  refine WL.y (Yl.assign rfl) rfl ?_ -- t5
  refine WL.nil ?_
  refine WC.seq ?_
  refine WC.seq ?_
  refine WC.region ?_
  refine WL.y (Yl.loadN ag31 rfl (by repeat (first | exact Take1.head | apply Take1.tail)) (by rfl) (by rfl)) rfl ?_ -- t6
  refine WL.to (To.buildSlice (vs := [.agg d.cells.toArray]) un25 zs31 rfl rfl (by intro u hu; simp at hu; subst hu; rfl) (by decide) (by decide)) rfl ?_ -- t7
  intro b7
  rw [show flat [Value.agg d.cells.toArray] = d.cells from rfl]
  refine WL.callC (xs := [.tmp 7]) (cap := []) rfl rfl en39 (by repeat (first | exact TakeL.nil | (apply TakeL.cons; · repeat (first | exact Take1.head | apply Take1.tail)))) (fun w hw => small_any (.slice (some ⟨b7, 0, none⟩) 1 1) [d] (by simp) w (hw.src (A := []) (rdDv.cs (show d.cells = vcs Dv.val [d] by simp [vcs_one, Dv.val, Value.cells])) (by repeat (first | exact Take1.head | apply Take1.tail))) hw.left.here) rfl ?_ -- t8 hailer/roster.small
  rintro ⟨⟩ -
  refine WL.y (Yl.not rfl) rfl ?_ -- t9
  refine WL.say (t := 9) (v' := .bool d.big) rfl (by simp) ?_
  refine WL.nil ?_
  refine WC.cond rfl (fun g9 => ?_) (fun g9 => ?_)
  · refine WC.seq ?_
    refine WC.region ?_
    refine WL.y (Yl.build rfl (cs := Rs.zero.cells) (fun _ => by kernel_rfl)) rfl ?_ -- t10
    refine WL.sto (Sto.agg sz27 rfl rfl (by repeat (first | exact Take1.head | apply Take1.tail)) (Rs.one rfl) rfl (by rfl) (Rs.put (r := Rs.zero) (q := Rs.zero) rfl)) (fun _ h => nomatch h) ?_ -- st 1
    refine WL.y (Yl.assign rfl) rfl ?_ -- t5
    refine WL.nil ?_
    refine WC.ret ?_
    repeat (first | (with_reducible refine peelT ?_) | (with_reducible refine peelB ?_) | (with_reducible refine peelTX ?_) | (with_reducible refine peelBX ?_) | (with_reducible refine peelBN ?_) | (with_reducible refine peelBO rfl ?_))
    refine retC2 (cs := Rs.zero.cells) (.inr rfl) Try.results13 ag27 rfl rfl (by repeat (first | exact Take1.head | apply Take1.tail)) (Rs.len18 rfl) fun w' h => ⟨.slice none 0 0, ⟨_, _, _, rfl⟩, by unfold nwRs nwE; rw [g9]; rfl, ?_⟩
    rw [show nwMs d = [] by unfold nwMs; rw [g9]; rfl]
    exact (h.addNil 31 2).sub (by repeat (first | exact TakeL.nil | (apply TakeL.cons; · repeat (first | exact Take1.head | apply Take1.tail))))
  · refine WC.skip ?_
    refine WC.seq ?_
    refine WC.region ?_
    refine WL.y (Yl.loadN ag23 rfl (by repeat (first | exact Take1.head | apply Take1.tail)) (by rw [ints_length, hg]; rfl) (show ((ints .u8 g).drop 0).take 16 = ints .u8 g by rw [List.drop_zero, List.take_of_length_le (by rw [ints_length]; omega)])) rfl ?_ -- t11
    refine WL.y (Yl.loadN ag31 rfl (by repeat (first | exact Take1.head | apply Take1.tail)) (by rfl) (by rfl)) rfl ?_ -- t12
    refine WL.to (To.buildSlice (vs := [.agg d.cells.toArray]) un25 zs31 rfl rfl (by intro u hu; simp at hu; subst hu; rfl) (by decide) (by decide)) rfl ?_ -- t13
    intro b13
    rw [show flat [Value.agg d.cells.toArray] = d.cells from rfl]
    refine WL.view (fun w h => h.blkOwn (b := b13) (size := 2) (n := 1) (by repeat (first | exact Take1.head | apply Take1.tail)) (by unfold maxLen; omega) rfl) ?_
    refine WL.y (Yl.build rfl (cs := (Rs.mk g 1 (.slice (some ⟨b13, 0, none⟩) 1 1)).cells) (build_ro hg _ _ ⟨_, _, _, rfl⟩)) rfl ?_ -- t14
    refine WL.sto (Sto.agg sz27 rfl rfl (by repeat (first | exact Take1.head | apply Take1.tail)) (Rs.one rfl) (Rs.len18 hg) (by rfl) (Rs.put (r := Rs.zero) rfl)) (fun _ h => nomatch h) ?_ -- st 2
    refine WL.y (Yl.assign rfl) rfl ?_ -- t5
    refine WL.nil ?_
    refine WC.ret ?_
    repeat (first | (with_reducible refine peelT ?_) | (with_reducible refine peelB ?_) | (with_reducible refine peelTX ?_) | (with_reducible refine peelBX ?_) | (with_reducible refine peelBN ?_) | (with_reducible refine peelBO rfl ?_))
    refine retC2 (cs := (Rs.mk g 1 (.slice (some ⟨b13, 0, none⟩) 1 1)).cells) (.inr rfl) Try.results13 ag27 rfl rfl (by repeat (first | exact Take1.head | apply Take1.tail)) (Rs.len18 hg) fun w' h => ⟨.slice (some ⟨b13, 0, none⟩) 1 1, ⟨_, _, _, rfl⟩, by unfold nwRs nwE; rw [g9]; rfl, ?_⟩
    rw [show nwMs d = [d] by unfold nwMs; rw [g9]; rfl]
    exact h.sub (by repeat (first | exact TakeL.nil | (apply TakeL.cons; · repeat (first | exact Take1.head | apply Take1.tail))))
def hdF (ms : List Dv) : Dv := ms.getD 0 d0
theorem head_any (r : Rs) (ms : List Dv) (hg : r.g.length = 16) (hl : ms.length ≤ 1099511627776) (w : World) (hx : RdS w (fpL []) r.v 2 ms.length (vcs Dv.val ms)) (hw : OK w (fpL []) [] w) :
    Fn Try.prog 17 [.agg r.cells.toArray] [] w (fun _ : Unit => True) (fun _ => .tuple #[(hdF ms).val, .bool (!decide (ms.length = 0))]) (fun _ => []) := by
  obtain ⟨ao, cap, hv, hcap, hml⟩ := hx.rd.form
  have a17 := Rs.at17 hg
  rw [hv] at a17 hx
  refine enterF Try.func17 rfl Try.ntmps17 rfl hw ?_
  refine WC.seq ?_
  refine WC.region ?_
  refine WL.to (To.box (cs := r.cells) rfl rfl) rfl ?_ -- t1
  intro b1
  refine WL.to (To.alloc (cs := d0.cells) zr31 rfl) rfl ?_ -- t2
  intro b2
  refine WL.y (Yl.assign rfl) rfl ?_ -- t3
  refine WL.nil ?_
  refine WC.seq ?_
  refine WC.seq ?_
  refine WC.region ?_
  refine WL.y (Yl.field fo27_2 rfl) rfl ?_ -- t4
  refine WL.y (Yl.load on25 rfl (by repeat (first | exact Take1.head | apply Take1.tail)) a17) rfl ?_ -- t5
  refine WL.y (Yl.len un25 rfl) rfl ?_ -- t6
  refine WL.y (Yl.eql rfl rfl) rfl ?_ -- t7
  refine WL.nil ?_
  refine WC.condD rfl (fun g7 => ?_) (fun g7 => ?_)
  · refine WC.seq ?_
    refine WC.region ?_
    refine WL.y (Yl.build rfl (cs := d0.cells) (fun _ => by kernel_rfl)) rfl ?_ -- t8
    refine WL.sto (Sto.agg sz31 rfl rfl (by repeat (first | exact Take1.head | apply Take1.tail)) (Dv.ones d0) rfl (by rfl) (show _ = d0.cells from rfl)) (fun _ h => nomatch h) ?_ -- st 1
    refine WL.y (Yl.assign rfl) rfl ?_ -- t3
    refine WL.nil ?_
    refine WC.ret ?_
    repeat (first | (with_reducible refine peelT ?_) | (with_reducible refine peelB ?_) | (with_reducible refine peelTX ?_) | (with_reducible refine peelBX ?_) | (with_reducible refine peelBN ?_) | (with_reducible refine peelBO rfl ?_))
    have h0 : ms = [] := List.eq_nil_of_length_eq_zero (by omega)
    subst h0
    exact retC2 (cs := d0.cells) (.inr rfl) Try.results17 ag31 rfl rfl (by repeat (first | exact Take1.head | apply Take1.tail)) rfl fun w' h => ⟨(), trivial, rfl, h.sub (by repeat (first | exact TakeL.nil | (apply TakeL.cons; · repeat (first | exact Take1.head | apply Take1.tail))))⟩
  · refine WC.skip ?_
    refine WC.seq ?_
    refine WC.region ?_
    obtain ⟨x, hxx⟩ : ∃ x, ms[0]? = some x := ⟨_, List.getElem?_eq_getElem (by omega)⟩
    have hh : hdF ms = x := getD_at hxx
    refine WL.y (Yl.field fo27_2 rfl) rfl ?_ -- t9
    refine WL.y (Yl.load on25 rfl (by repeat (first | exact Take1.head | apply Take1.tail)) a17) rfl ?_ -- t10
    refine WL.y (Yl.index (j := 0) un25 sz31 rfl rfl (Reads.s hx) rfl (by omega)) rfl ?_ -- t11
    refine WL.y (Yl.loadV (j := 0) (u := x) dvV dvAll rfl (Reads.s hx) rfl hxx) rfl ?_
    refine WL.sto (Sto.agg sz31 rfl rfl (by repeat (first | exact Take1.head | apply Take1.tail)) (Dv.ones x) rfl (by rfl) (show _ = x.cells from rfl)) (fun _ h => nomatch h) ?_ -- st 2
    refine WL.y (Yl.assign rfl) rfl ?_ -- t3
    refine WL.nil ?_
    refine WC.ret ?_
    repeat (first | (with_reducible refine peelT ?_) | (with_reducible refine peelB ?_) | (with_reducible refine peelTX ?_) | (with_reducible refine peelBX ?_) | (with_reducible refine peelBN ?_) | (with_reducible refine peelBO rfl ?_))
    exact retC2 (cs := x.cells) (.inr rfl) Try.results17 ag31 rfl rfl (by repeat (first | exact Take1.head | apply Take1.tail)) rfl fun w' h => ⟨(), trivial, by rw [hh, decide_eq_false (by omega)]; rfl, h.sub (by repeat (first | exact TakeL.nil | (apply TakeL.cons; · repeat (first | exact Take1.head | apply Take1.tail))))⟩
theorem pl_eq {x : Dv} (h : x.ok) : (x.pl : Int) = 4 * x.a + x.d := by
  obtain ⟨⟨h1, _⟩, h2, _⟩ := h
  unfold Dv.pl; omega
theorem place_any (x : Dv) (hx : x.ok) (w : World) (hw : OK w (fpL []) [] w) : Fn Try.prog 25 [x.val] [] w (fun _ : Unit => True) (fun _ => .int .u64 (x.pl : Int)) (fun _ => []) := by
  obtain ⟨⟨h1, h2⟩, h3, h4⟩ := id hx
  refine enterF Try.func25 rfl Try.ntmps25 rfl hw ?_
  refine WC.seq ?_
  refine WC.region ?_
  refine WL.to (To.box (cs := x.cells) rfl rfl) rfl ?_ -- t1
  intro b1
  refine WL.y (Yl.assign rfl) rfl ?_ -- t2
  refine WL.nil ?_
  refine WC.seq ?_
  refine WC.region ?_
  refine WL.y (Yl.field fo31_0 rfl) rfl ?_ -- t3
  refine WL.y (Yl.load on5 rfl (by repeat (first | exact Take1.head | apply Take1.tail)) (by rfl)) rfl ?_ -- t4
  refine WL.y (Yl.conv un5 un24 rfl (u64_in _ (by omega))) rfl ?_ -- t5
  refine WL.y (Yl.mul rfl rfl rfl) rfl ?_ -- t6
  refine WL.say (t := 6) (v' := .int .u64 (x.a * 4)) rfl (by rw [u64_in _ (by omega)]) ?_
  refine WL.y (Yl.field fo31_1 rfl) rfl ?_ -- t7
  refine WL.y (Yl.load on5 rfl (by repeat (first | exact Take1.head | apply Take1.tail)) (by rfl)) rfl ?_ -- t8
  refine WL.y (Yl.conv un5 un24 rfl (u64_in _ (by omega))) rfl ?_ -- t9
  refine WL.y (Yl.add rfl rfl rfl) rfl ?_ -- t10
  refine WL.say (t := 10) (v' := .int .u64 (x.pl : Int)) rfl (by rw [u64_in _ (by omega), pl_eq hx, Int.mul_comm]) ?_
  refine WL.y (Yl.assign rfl) rfl ?_ -- t2
  refine WL.nil ?_
  refine WC.ret ?_
  repeat (first | (with_reducible refine peelT ?_) | (with_reducible refine peelB ?_) | (with_reducible refine peelTX ?_) | (with_reducible refine peelBX ?_) | (with_reducible refine peelBN ?_) | (with_reducible refine peelBO rfl ?_))
  exact ret1 (.inr rfl) Try.results25 rfl fun w' h => ⟨(), trivial, rfl, h.sub (by repeat (first | exact TakeL.nil | (apply TakeL.cons; · repeat (first | exact Take1.head | apply Take1.tail))))⟩
theorem rplace_any (x : Dv) (hx : x.ok) (w : World) (hw : OK w (fpL []) [] w) : Fn Try.prog 26 [x.val] [] w (fun _ : Unit => True) (fun _ => .int .i64 (x.pl : Int)) (fun _ => []) := by
  obtain ⟨⟨h1, h2⟩, h3, h4⟩ := id hx
  refine enterF Try.func26 rfl Try.ntmps26 rfl hw ?_
  refine WC.seq ?_
  refine WC.region ?_
  refine WL.to (To.box (cs := x.cells) rfl rfl) rfl ?_ -- t1
  intro b1
  refine WL.y (Yl.assign rfl) rfl ?_ -- t2
  refine WL.nil ?_
  refine WC.seq ?_
  refine WC.region ?_
  refine WL.y (Yl.field fo31_0 rfl) rfl ?_ -- t3
  refine WL.y (Yl.load on5 rfl (by repeat (first | exact Take1.head | apply Take1.tail)) (by rfl)) rfl ?_ -- t4
  refine WL.y (Yl.conv un5 un3 rfl (IntWalk.i64_in _ (by omega))) rfl ?_ -- t5
  refine WL.y (Yl.mul rfl rfl (IntWalk.i64_in _ (by omega))) rfl ?_ -- t6
  refine WL.y (Yl.field fo31_1 rfl) rfl ?_ -- t7
  refine WL.y (Yl.load on5 rfl (by repeat (first | exact Take1.head | apply Take1.tail)) (by rfl)) rfl ?_ -- t8
  refine WL.y (Yl.conv un5 un3 rfl (IntWalk.i64_in _ (by omega))) rfl ?_ -- t9
  refine WL.y (Yl.add rfl rfl (IntWalk.i64_in _ (by omega))) rfl ?_ -- t10
  refine WL.say (t := 10) (v' := .int .i64 (x.pl : Int)) rfl (by rw [pl_eq hx]) ?_
  refine WL.y (Yl.assign rfl) rfl ?_ -- t2
  refine WL.nil ?_
  refine WC.ret ?_
  repeat (first | (with_reducible refine peelT ?_) | (with_reducible refine peelB ?_) | (with_reducible refine peelTX ?_) | (with_reducible refine peelBX ?_) | (with_reducible refine peelBN ?_) | (with_reducible refine peelBO rfl ?_))
  exact ret1 (.inr rfl) Try.results26 rfl fun w' h => ⟨(), trivial, rfl, h.sub (by repeat (first | exact TakeL.nil | (apply TakeL.cons; · repeat (first | exact Take1.head | apply Take1.tail))))⟩
theorem rsmall_any (x : Dv) (w : World) (hw : OK w (fpL []) [] w) : Fn Try.prog 36 [x.val] [] w (fun _ : Unit => True) (fun _ => .bool (!x.big)) (fun _ => []) := by
  refine enterF Try.func36 rfl Try.ntmps36 rfl hw ?_
  refine WC.seq ?_
  refine WC.region ?_
  refine WL.to (To.box (cs := x.cells) rfl rfl) rfl ?_ -- t1
  intro b1
  refine WL.y (Yl.assign rfl) rfl ?_ -- t2
  refine WL.nil ?_
  refine WC.seq ?_
  refine WC.region ?_
  refine WL.y (Yl.field fo31_0 rfl) rfl ?_ -- t3
  refine WL.y (Yl.load on5 rfl (by repeat (first | exact Take1.head | apply Take1.tail)) (by rfl)) rfl ?_ -- t4
  refine WL.y (Yl.lss rfl rfl) rfl ?_ -- t5
  refine WL.y (Yl.move rfl) rfl ?_ -- t6
  refine WL.both (t := 6) rfl (fun g6 => ?_) (fun g6 => ?_)
  · refine WL.on rfl rfl ?_
    refine WL.y (Yl.field fo31_1 rfl) rfl ?_ -- t7
    refine WL.on rfl rfl ?_
    refine WL.y (Yl.load on5 rfl (by repeat (first | exact Take1.head | apply Take1.tail)) (by rfl)) rfl ?_ -- t8
    refine WL.on rfl rfl ?_
    refine WL.y (Yl.lss rfl rfl) rfl ?_ -- t9
    refine WL.y (Yl.pickT rfl rfl) rfl ?_ -- t10
    refine WL.y (Yl.assign rfl) rfl ?_ -- t2
    refine WL.nil ?_
    refine WC.ret ?_
    repeat (first | (with_reducible refine peelT ?_) | (with_reducible refine peelB ?_) | (with_reducible refine peelTX ?_) | (with_reducible refine peelBX ?_) | (with_reducible refine peelBN ?_) | (with_reducible refine peelBO rfl ?_))
    exact ret1 (.inr rfl) Try.results36 rfl fun w' h => ⟨(), trivial, by
      have := of_decide_eq_true g6
      unfold Dv.big
      rw [show decide (8 ≤ x.a) = false by exact decide_eq_false (by omega), Bool.false_or, ← decide_not]
      congr 2
      rw [decide_eq_decide]; omega, h.sub (by repeat (first | exact TakeL.nil | (apply TakeL.cons; · repeat (first | exact Take1.head | apply Take1.tail))))⟩
  · refine WL.off rfl rfl rfl rfl ?_ -- t7
    refine WL.off rfl rfl rfl rfl ?_ -- t8
    refine WL.off rfl rfl rfl rfl ?_ -- t9
    refine WL.y (Yl.pickF rfl rfl) rfl ?_ -- t10
    refine WL.y (Yl.assign rfl) rfl ?_ -- t2
    refine WL.nil ?_
    refine WC.ret ?_
    repeat (first | (with_reducible refine peelT ?_) | (with_reducible refine peelB ?_) | (with_reducible refine peelTX ?_) | (with_reducible refine peelBX ?_) | (with_reducible refine peelBN ?_) | (with_reducible refine peelBO rfl ?_))
    exact ret1 (.inr rfl) Try.results36 rfl fun w' h => ⟨(), trivial, by
      have := of_decide_eq_false g6
      unfold Dv.big
      rw [show decide (8 ≤ x.a) = true by exact decide_eq_true (by omega)]
      rfl, h.sub (by repeat (first | exact TakeL.nil | (apply TakeL.cons; · repeat (first | exact Take1.head | apply Take1.tail))))⟩
theorem indexD_any (ao : Option Addr) (cap : Nat) (xs : List Dv) (d : Dv) (hl : xs.length ≤ 1099511627776) (ho : DOk xs) (hd : d.ok) (w : World) (hx : RdS w (fpL []) (.slice ao xs.length cap) 2 xs.length (vcs Dv.val xs)) (hw : OK w (fpL []) [] w) :
    Fn Try.prog 72 [.slice ao xs.length cap, d.val] [] w (fun i : Int => (0 ≤ i ↔ d ∈ xs)) (fun i => .int .i64 i) (fun _ => []) := by
  refine enterF Try.func72 rfl Try.ntmps72 rfl hw ?_
  refine WC.seq ?_
  refine WC.region ?_
  refine WL.to (To.box (cs := d.cells) rfl rfl) rfl ?_ -- t3
  intro b3
  refine WL.y (Yl.assign rfl) rfl ?_ -- t4
  refine WL.nil ?_
  refine WC.seq ?_
  refine WC.seq ?_
  refine WC.region ?_
  refine WL.y (Yl.move rfl) rfl ?_ -- t6
  refine WL.y (Yl.len un25 rfl) rfl ?_ -- t7
  refine WL.y (Yl.move rfl) rfl ?_ -- t8
  refine WL.nil ?_
  refine WC.block ?_
  refine WC.loop (α := Nat) (fun j => [(0, .slice ao xs.length cap), (3, .pointer (some ⟨b3, 0, none⟩)), (7, .int .i64 (xs.length : Int)), (8, .int .i64 (j : Int))]) (fun _ => [blkR b3 31 d.cells]) (fun j => j ≤ xs.length ∧ ¬ d ∈ xs.take j) (fun j => xs.length - j) 0 ⟨Nat.zero_le _, by simp⟩ ⟨(by repeat (first | exact Sub.nil | refine Sub.cons rfl ?_)), _, (by repeat (first | exact TakeL.nil | (apply TakeL.cons; · repeat (first | exact Take1.head | apply Take1.tail))))⟩ ?_
  rintro j ⟨hj, hno⟩
  refine WC.seq ?_
  refine WC.region ?_
  refine WL.y (Yl.lss rfl rfl) rfl ?_ -- t9
  refine WL.nil ?_
  refine WC.seq ?_
  refine WC.condD rfl (fun g9 => ?_) (fun g9 => ?_)
  · refine WC.skip ?_
    refine WC.seq ?_
    refine WC.block ?_
    refine WC.seq ?_
    refine WC.region ?_
    refine WL.y (Yl.move rfl) rfl ?_ -- t10
    refine WL.y (Yl.assign rfl) rfl ?_ -- t5
    refine WL.nil ?_
    refine WC.seq ?_
    obtain ⟨x, hxx⟩ : ∃ x, xs[j]? = some x := ⟨_, List.getElem?_eq_getElem (by omega)⟩
    refine WC.drawRead mixed (by kernel_rfl) ?_
    refine WH.y (Yl.loadN ag31 rfl (by repeat (first | exact Take1.head | apply Take1.tail)) (by rfl) (by rfl)) rfl ?_ -- t11
    refine WH.y (Yl.move rfl) rfl ?_ -- t12
    refine WH.y (Yl.move rfl) rfl ?_ -- t13
    refine WH.y (Yl.index un25 sz31 rfl rfl (Reads.s hx) rfl (by omega)) rfl ?_ -- t14
    refine WH.y (Yl.loadV (j := j) (u := x) dvV dvAll rfl (Reads.s hx) rfl hxx) rfl ?_
    refine WH.y (Yl.eqA (xs := d.cells) (ys := x.cells) flatD rfl rfl (Dv.fits hd) (Dv.fits (ho x (List.mem_of_getElem? hxx)))) rfl ?_
    refine WH.say (t := 16) (v' := .bool (decide (d = x))) rfl (by rw [Dv.eqV]) ?_
    refine WH.nil ?_
    refine WC.condD rfl (fun g16 => ?_) (fun g16 => ?_)
    · refine WC.seq ?_
      refine WC.region ?_
      refine WL.y (Yl.move rfl) rfl ?_ -- t17
      refine WL.y (Yl.assign rfl) rfl ?_ -- t4
      refine WL.nil ?_
      refine WC.ret ?_
      repeat (first | (with_reducible refine peelT ?_) | (with_reducible refine peelB ?_) | (with_reducible refine peelTX ?_) | (with_reducible refine peelBX ?_) | (with_reducible refine peelBN ?_) | (with_reducible refine peelBO rfl ?_))
      exact ret1 (.inr rfl) Try.results72 rfl fun w' h => ⟨(j : Int), ⟨fun _ => by rw [g16]; exact List.mem_of_getElem? hxx, fun _ => by omega⟩, rfl, h.sub (by repeat (first | exact TakeL.nil | (apply TakeL.cons; · repeat (first | exact Take1.head | apply Take1.tail))))⟩
    · refine WC.skip ?_
      refine WC.region ?_
      refine WL.y (Yl.add rfl rfl (IntWalk.i64_in _ (by omega))) rfl ?_ -- t18
      refine WL.y (Yl.move rfl) rfl ?_ -- t8
      refine WL.nil ?_
      exact ⟨rfl, j + 1, ⟨by omega, by rw [← take_snoc _ _ _ hxx, List.mem_append, List.mem_singleton]; exact fun e => e.elim hno g16⟩, by omega, (by repeat (first | exact Sub.nil | refine Sub.cons rfl ?_)), _, (by repeat (first | exact TakeL.nil | (apply TakeL.cons; · repeat (first | exact Take1.head | apply Take1.tail))))⟩
  · refine WC.exit ?_
    refine WC.seq ?_
    refine WC.region ?_
    refine WL.y (Yl.assign rfl) rfl ?_ -- t4
    refine WL.nil ?_
    refine WC.ret ?_
    repeat (first | (with_reducible refine peelT ?_) | (with_reducible refine peelB ?_) | (with_reducible refine peelTX ?_) | (with_reducible refine peelBX ?_) | (with_reducible refine peelBN ?_) | (with_reducible refine peelBO rfl ?_))
    have hjn : j = xs.length := by omega
    subst hjn
    rw [List.take_length] at hno
    exact ret1 (.inr rfl) Try.results72 rfl fun w' h => ⟨-1, by simp [hno], rfl, h.sub (by repeat (first | exact TakeL.nil | (apply TakeL.cons; · repeat (first | exact Take1.head | apply Take1.tail))))⟩
theorem contD_any (ao : Option Addr) (cap : Nat) (xs : List Dv) (d : Dv) (hl : xs.length ≤ 1099511627776) (ho : DOk xs) (hd : d.ok) (w : World) (hx : RdS w (fpL []) (.slice ao xs.length cap) 2 xs.length (vcs Dv.val xs)) (hw : OK w (fpL []) [] w) :
    Fn Try.prog 52 [.slice ao xs.length cap, d.val] [] w (fun _ : Unit => True) (fun _ => .bool (inF xs d)) (fun _ => []) := by
  refine enterF Try.func52 rfl Try.ntmps52 rfl hw ?_
  refine WC.seq ?_
  refine WC.region ?_
  refine WL.to (To.box (cs := d.cells) rfl rfl) rfl ?_ -- t3
  intro b3
  refine WL.y (Yl.assign rfl) rfl ?_ -- t4
  refine WL.nil ?_
  refine WC.seq ?_
  refine WC.region ?_
  refine WL.y (Yl.move rfl) rfl ?_ -- t5
  refine WL.y (Yl.loadN ag31 rfl (by repeat (first | exact Take1.head | apply Take1.tail)) (by rfl) (by rfl)) rfl ?_ -- t6
  refine WL.callC (xs := [.tmp 5, .tmp 6]) (cap := []) rfl rfl en72 (by repeat (first | exact TakeL.nil | (apply TakeL.cons; · repeat (first | exact Take1.head | apply Take1.tail)))) (fun w hw => indexD_any ao cap xs d hl ho hd w (hw.srcS (A := []) hx) hw.left.here) rfl ?_ -- t7 slices.Index[[]hailer/api.Dev,hailer/api.Dev]
  intro i hi
  refine WL.y (Yl.geq rfl rfl) rfl ?_ -- t8
  refine WL.y (Yl.assign rfl) rfl ?_ -- t4
  refine WL.nil ?_
  refine WC.ret ?_
  repeat (first | (with_reducible refine peelT ?_) | (with_reducible refine peelB ?_) | (with_reducible refine peelTX ?_) | (with_reducible refine peelBX ?_) | (with_reducible refine peelBN ?_) | (with_reducible refine peelBO rfl ?_))
  exact ret1 (.inr rfl) Try.results52 rfl fun w' h => ⟨(), trivial, by
    unfold inF
    rw [decide_eq_decide.2 hi], h.sub (by repeat (first | exact TakeL.nil | (apply TakeL.cons; · repeat (first | exact Take1.head | apply Take1.tail))))⟩
theorem has_any (r : Rs) (xs : List Dv) (d : Dv) (hg : r.g.length = 16) (hl : xs.length ≤ 1099511627776) (ho : DOk xs) (hd : d.ok) (w : World) (hx : RdS w (fpL []) r.v 2 xs.length (vcs Dv.val xs)) (hw : OK w (fpL []) [] w) :
    Fn Try.prog 23 [.agg r.cells.toArray, d.val] [] w (fun _ : Unit => True) (fun _ => .bool (inF xs d)) (fun _ => []) := by
  obtain ⟨ao, cap, hv, hcap, hml⟩ := hx.rd.form
  have a17 := Rs.at17 hg
  rw [hv] at a17 hx
  refine enterF Try.func23 rfl Try.ntmps23 rfl hw ?_
  refine WC.seq ?_
  refine WC.region ?_
  refine WL.to (To.box (cs := r.cells) rfl rfl) rfl ?_ -- t2
  intro b2
  refine WL.to (To.box (cs := d.cells) rfl rfl) rfl ?_ -- t3
  intro b3
  refine WL.y (Yl.assign rfl) rfl ?_ -- t4
  refine WL.nil ?_
  refine WC.seq ?_
  refine WC.region ?_
  refine WL.y (Yl.field fo27_2 rfl) rfl ?_ -- t5
  refine WL.y (Yl.load on25 rfl (by repeat (first | exact Take1.head | apply Take1.tail)) a17) rfl ?_ -- t6
  refine WL.y (Yl.loadN ag31 rfl (by repeat (first | exact Take1.head | apply Take1.tail)) (by rfl) (by rfl)) rfl ?_ -- t7
  refine WL.callC (xs := [.tmp 6, .tmp 7]) (cap := []) rfl rfl en52 (by repeat (first | exact TakeL.nil | (apply TakeL.cons; · repeat (first | exact Take1.head | apply Take1.tail)))) (fun w hw => contD_any ao cap xs d hl ho hd w (hw.srcS (A := []) hx) hw.left.here) rfl ?_ -- t8 slices.Contains[[]hailer/api.Dev,hailer/api.Dev]
  rintro ⟨⟩ -
  refine WL.y (Yl.assign rfl) rfl ?_ -- t4
  refine WL.nil ?_
  refine WC.ret ?_
  repeat (first | (with_reducible refine peelT ?_) | (with_reducible refine peelB ?_) | (with_reducible refine peelTX ?_) | (with_reducible refine peelBX ?_) | (with_reducible refine peelBN ?_) | (with_reducible refine peelBO rfl ?_))
  exact ret1 (.inr rfl) Try.results23 rfl fun w' h => ⟨(), trivial, rfl, h.sub (by repeat (first | exact TakeL.nil | (apply TakeL.cons; · repeat (first | exact Take1.head | apply Take1.tail))))⟩
theorem up_of {xs : List Dv} (h : ∀ (j : Nat) (x y : Dv), xs[j]? = some x → xs[j + 1]? = some y → x.key < y.key) : Up xs := by
  unfold Up
  rw [List.pairwise_iff_getElem]
  intro i j hi hj hij
  induction j with
  | zero => omega
  | succ j ih =>
    have k1 := h j _ _ (List.getElem?_eq_getElem (show j < xs.length by omega)) (List.getElem?_eq_getElem hj)
    by_cases e : i = j
    · subst e; exact k1
    · have := ih (by omega) (by omega); omega
def lastF (ms : List Dv) : Nat → Int
  | 0 => -1
  | k + 1 => ((ms.getD k d0).pl : Int)
set_option maxRecDepth 100000 in
theorem rmay_any (r : Rs) (ms : List Dv) (hg : r.g.length = 16) (hl : ms.length ≤ 1099511627776) (ho : DOk ms) (w : World) (hx : RdS w (fpL []) r.v 2 ms.length (vcs Dv.val ms)) (hw : OK w (fpL []) [] w) :
    Fn Try.prog 18 [.agg r.cells.toArray] [] w (fun _ : Unit => True) (fun _ => .bool (mayF r.e ms)) (fun _ => []) := by
  obtain ⟨ao, cap, hv, hcap, hml⟩ := hx.rd.form
  have a16 := Rs.at16 hg
  have a17 := Rs.at17 hg
  rw [hv] at a17 hx
  refine enterF Try.func18 rfl Try.ntmps18 rfl hw ?_
  refine WC.seq ?_
  refine WC.region ?_
  refine WL.to (To.box (cs := r.cells) rfl rfl) rfl ?_ -- t1
  intro b1
  refine WL.y (Yl.assign rfl) rfl ?_ -- t2
  refine WL.nil ?_
  refine WC.seq ?_
  refine WC.seq ?_
  refine WC.region ?_
  refine WL.y (Yl.field fo27_1 rfl) rfl ?_ -- t5
  refine WL.y (Yl.load on24 rfl (by repeat (first | exact Take1.head | apply Take1.tail)) a16) rfl ?_ -- t6
  refine WL.y (Yl.lss rfl rfl) rfl ?_ -- t7
  refine WL.y (Yl.move rfl) rfl ?_ -- t8
  refine WL.both (t := 8) rfl (fun g8 => ?_) (fun g8 => ?_)
  · refine WL.off rfl rfl rfl rfl ?_ -- t9
    refine WL.off rfl rfl rfl rfl ?_ -- t10
    refine WL.off rfl rfl rfl rfl ?_ -- t11
    refine WL.y (Yl.pickT rfl rfl) rfl ?_ -- t12
    refine WL.nil ?_
    refine WC.condT rfl (by first | rfl | (simp; done) | (simp; omega)) ?_
    refine WC.seq ?_
    refine WC.region ?_
    refine WL.y (Yl.assign rfl) rfl ?_ -- t2
    refine WL.nil ?_
    refine WC.ret ?_
    repeat (first | (with_reducible refine peelT ?_) | (with_reducible refine peelB ?_) | (with_reducible refine peelTX ?_) | (with_reducible refine peelBX ?_) | (with_reducible refine peelBN ?_) | (with_reducible refine peelBO rfl ?_))
    exact ret1 (.inr rfl) Try.results18 rfl fun w' h => ⟨(), trivial, by unfold mayF; rw [g8]; rfl, h.sub (by repeat (first | exact TakeL.nil | (apply TakeL.cons; · repeat (first | exact Take1.head | apply Take1.tail))))⟩
  · refine WL.on rfl rfl ?_
    refine WL.y (Yl.field fo27_1 rfl) rfl ?_ -- t9
    refine WL.on rfl rfl ?_
    refine WL.y (Yl.load on24 rfl (by repeat (first | exact Take1.head | apply Take1.tail)) a16) rfl ?_ -- t10
    refine WL.on rfl rfl ?_
    refine WL.y (Yl.gtr rfl rfl) rfl ?_ -- t11
    refine WL.y (Yl.pickF rfl rfl) rfl ?_ -- t12
    refine WL.nil ?_
    refine WC.cond rfl (fun g12 => ?_) (fun g12 => ?_)
    · refine WC.seq ?_
      refine WC.region ?_
      refine WL.y (Yl.assign rfl) rfl ?_ -- t2
      refine WL.nil ?_
      refine WC.ret ?_
      repeat (first | (with_reducible refine peelT ?_) | (with_reducible refine peelB ?_) | (with_reducible refine peelTX ?_) | (with_reducible refine peelBX ?_) | (with_reducible refine peelBN ?_) | (with_reducible refine peelBO rfl ?_))
      exact ret1 (.inr rfl) Try.results18 rfl fun w' h => ⟨(), trivial, by unfold mayF; rw [g12]; simp, h.sub (by repeat (first | exact TakeL.nil | (apply TakeL.cons; · repeat (first | exact Take1.head | apply Take1.tail))))⟩
    · refine WC.skip ?_
      refine WC.seq ?_
      refine WC.region ?_
      refine WL.y (Yl.assign rfl) rfl ?_ -- t3
      refine WL.nil ?_
      refine WC.seq ?_
      refine WC.seq ?_
      refine WC.region ?_
      refine WL.y (Yl.assign rfl) rfl ?_ -- t4
      refine WL.nil ?_
      refine WC.block ?_
      refine WC.loop (α := Nat) (fun k => [(1, .pointer (some ⟨b1, 0, none⟩)), (3, .int .i64 (lastF ms k)), (4, .int .i64 (k : Int))]) (fun _ => [blkR b1 27 r.cells]) (fun k => k ≤ ms.length ∧ (∀ j x, j < k → ms[j]? = some x → x.big = false) ∧ (∀ j x y, j + 1 < k → ms[j]? = some x → ms[j + 1]? = some y → x.pl < y.pl)) (fun k => ms.length - k) 0 ⟨Nat.zero_le _, (fun j x h => absurd h (Nat.not_lt_zero _)), fun j x y h => absurd h (Nat.not_lt_zero _)⟩ ⟨(by repeat (first | exact Sub.nil | refine Sub.cons rfl ?_)), _, (by repeat (first | exact TakeL.nil | (apply TakeL.cons; · repeat (first | exact Take1.head | apply Take1.tail))))⟩ ?_
      rintro k ⟨hk, hsm, hup⟩
      refine WC.seq ?_
      refine WC.seq ?_
      refine WC.region ?_
      refine WL.y (Yl.move rfl) rfl ?_ -- t13
      refine WL.y (Yl.field fo27_2 rfl) rfl ?_ -- t14
      refine WL.y (Yl.load on25 rfl (by repeat (first | exact Take1.head | apply Take1.tail)) a17) rfl ?_ -- t15
      refine WL.y (Yl.len un25 rfl) rfl ?_ -- t16
      refine WL.y (Yl.lss rfl rfl) rfl ?_ -- t17
      refine WL.nil ?_
      refine WC.condD rfl (fun g17 => ?_) (fun g17 => ?_)
      · refine WC.skip ?_
        refine WC.seq ?_
        refine WC.block ?_
        refine WC.seq ?_
        refine WC.seq ?_
        obtain ⟨x, hxx⟩ : ∃ x, ms[k]? = some x := ⟨_, List.getElem?_eq_getElem (by omega)⟩
        have hxo := ho x (List.mem_of_getElem? hxx)
        refine WC.region ?_
        refine WL.y (Yl.field fo27_2 rfl) rfl ?_ -- t20
        refine WL.y (Yl.load on25 rfl (by repeat (first | exact Take1.head | apply Take1.tail)) a17) rfl ?_ -- t21
        refine WL.y (Yl.move rfl) rfl ?_ -- t22
        refine WL.y (Yl.index un25 sz31 rfl rfl (Reads.s hx) rfl (by omega)) rfl ?_ -- t23
        refine WL.y (Yl.loadV (j := k) (u := x) dvV dvAll rfl (Reads.s hx) rfl hxx) rfl ?_
        refine WL.callC (xs := [.tmp 24]) (cap := []) rfl rfl en36 (by repeat (first | exact TakeL.nil | (apply TakeL.cons; · repeat (first | exact Take1.head | apply Take1.tail)))) (fun w hw => rsmall_any x w hw.left.here) rfl ?_ -- t25 hailer/hailerref23.small
        rintro ⟨⟩ -
        refine WL.y (Yl.not rfl) rfl ?_ -- t26
        refine WL.y (Yl.move rfl) rfl ?_ -- t27
        refine WL.both (t := 27) rfl (fun g27 => ?_) (fun g27 => ?_)
        · refine WL.off rfl rfl rfl rfl ?_ -- t28
          refine WL.off rfl rfl rfl rfl ?_ -- t29
          refine WL.off rfl rfl rfl rfl ?_ -- t30
          refine WL.off rfl rfl rfl rfl ?_ -- t31
          refine WL.off rfl rfl rfl rfl ?_ -- t32
          refine WL.off rfl rfl rfl rfl ?_ -- t33
          refine WL.off rfl rfl rfl rfl ?_ -- t34
          refine WL.off rfl rfl rfl rfl ?_ -- t35
          refine WL.y (Yl.pickT rfl rfl) rfl ?_ -- t36
          refine WL.nil ?_
          refine WC.condT rfl (by first | rfl | (simp; done) | (simp; omega)) ?_
          refine WC.seq ?_
          refine WC.region ?_
          refine WL.y (Yl.assign rfl) rfl ?_ -- t2
          refine WL.nil ?_
          refine WC.ret ?_
          repeat (first | (with_reducible refine peelT ?_) | (with_reducible refine peelB ?_) | (with_reducible refine peelTX ?_) | (with_reducible refine peelBX ?_) | (with_reducible refine peelBN ?_) | (with_reducible refine peelBO rfl ?_))
          exact ret1 (.inr rfl) Try.results18 rfl fun w' h => ⟨(), trivial, by
            have : ms.any Dv.big = true := List.any_eq_true.2 ⟨x, List.mem_of_getElem? hxx, by simpa using g27⟩
            unfold mayF
            rw [this]; simp, h.sub (by repeat (first | exact TakeL.nil | (apply TakeL.cons; · repeat (first | exact Take1.head | apply Take1.tail))))⟩
        · refine WL.on rfl rfl ?_
          refine WL.y (Yl.field fo27_2 rfl) rfl ?_ -- t28
          refine WL.on rfl rfl ?_
          refine WL.y (Yl.load on25 rfl (by repeat (first | exact Take1.head | apply Take1.tail)) a17) rfl ?_ -- t29
          refine WL.on rfl rfl ?_
          refine WL.y (Yl.move rfl) rfl ?_ -- t30
          refine WL.on rfl rfl ?_
          refine WL.y (Yl.index un25 sz31 rfl rfl (Reads.s hx) rfl (by omega)) rfl ?_ -- t31
          refine WL.on rfl rfl ?_
          refine WL.y (Yl.loadV (j := k) (u := x) dvV dvAll rfl (Reads.s hx) rfl hxx) rfl ?_
          refine WL.on rfl rfl ?_
          refine WL.callC (xs := [.tmp 32]) (cap := []) rfl rfl en26 (by repeat (first | exact TakeL.nil | (apply TakeL.cons; · repeat (first | exact Take1.head | apply Take1.tail)))) (fun w hw => rplace_any x hxo w hw.left.here) rfl ?_ -- t33 hailer/hailerref23.Place
          rintro ⟨⟩ -
          refine WL.on rfl rfl ?_
          refine WL.y (Yl.move rfl) rfl ?_ -- t34
          refine WL.on rfl rfl ?_
          refine WL.y (Yl.leq rfl rfl) rfl ?_ -- t35
          refine WL.y (Yl.pickF rfl rfl) rfl ?_ -- t36
          refine WL.nil ?_
          refine WC.condD rfl (fun g36 => ?_) (fun g36 => ?_)
          · refine WC.seq ?_
            refine WC.region ?_
            refine WL.y (Yl.assign rfl) rfl ?_ -- t2
            refine WL.nil ?_
            refine WC.ret ?_
            repeat (first | (with_reducible refine peelT ?_) | (with_reducible refine peelB ?_) | (with_reducible refine peelTX ?_) | (with_reducible refine peelBX ?_) | (with_reducible refine peelBN ?_) | (with_reducible refine peelBO rfl ?_))
            exact ret1 (.inr rfl) Try.results18 rfl fun w' h => ⟨(), trivial, by
              cases hm : mayF r.e ms with
              | false => rfl
              | true =>
                obtain ⟨_, _, _, hb, hgd⟩ := (mayF_iff ho).1 hm
                cases k with
                | zero => have : (x.pl : Int) ≤ -1 := g36; omega
                | succ j =>
                  obtain ⟨y, hyy⟩ : ∃ y, ms[j]? = some y := ⟨_, List.getElem?_eq_getElem (by omega)⟩
                  have h1 : (x.pl : Int) ≤ ((ms.getD j d0).pl : Int) := g36
                  rw [getD_at hyy] at h1
                  obtain ⟨l1, e1⟩ := List.getElem?_eq_some_iff.1 hyy
                  obtain ⟨l2, e2⟩ := List.getElem?_eq_some_iff.1 hxx
                  have := List.pairwise_iff_getElem.1 hgd.up j (j + 1) l1 l2 (by omega)
                  rw [e1, e2, pl_key (ho y (List.mem_of_getElem? hyy)) hxo ((small_iff.1 hb).s y (List.mem_of_getElem? hyy)) ((small_iff.1 hb).s x (List.mem_of_getElem? hxx))] at this
                  omega, h.sub (by repeat (first | exact TakeL.nil | (apply TakeL.cons; · repeat (first | exact Take1.head | apply Take1.tail))))⟩
          · refine WC.skip ?_
            refine WC.region ?_
            refine WL.y (Yl.field fo27_2 rfl) rfl ?_ -- t37
            refine WL.y (Yl.load on25 rfl (by repeat (first | exact Take1.head | apply Take1.tail)) a17) rfl ?_ -- t38
            refine WL.y (Yl.move rfl) rfl ?_ -- t39
            refine WL.y (Yl.index un25 sz31 rfl rfl (Reads.s hx) rfl (by omega)) rfl ?_ -- t40
            refine WL.y (Yl.loadV (j := k) (u := x) dvV dvAll rfl (Reads.s hx) rfl hxx) rfl ?_
            refine WL.callC (xs := [.tmp 41]) (cap := []) rfl rfl en26 (by repeat (first | exact TakeL.nil | (apply TakeL.cons; · repeat (first | exact Take1.head | apply Take1.tail)))) (fun w hw => rplace_any x hxo w hw.left.here) rfl ?_ -- t42 hailer/hailerref23.Place
            rintro ⟨⟩ -
            refine WL.say (t := 42) (v' := .int .i64 (lastF ms (k + 1))) rfl (by show _ = Value.int .i64 ((ms.getD k d0).pl : Int); rw [getD_at hxx]) ?_
            refine WL.y (Yl.assign rfl) rfl ?_ -- t3
            refine WL.nil ?_
            refine WC.region ?_
            refine WL.y (Yl.move rfl) rfl ?_ -- t18
            refine WL.y (Yl.add rfl rfl (IntWalk.i64_in _ (by omega))) rfl ?_ -- t19
            refine WL.y (Yl.assign rfl) rfl ?_ -- t4
            refine WL.nil ?_
            exact ⟨rfl, k + 1, ⟨by omega, fun j z hj hz => by
              by_cases e : j = k
              · subst e; rw [hxx] at hz; cases hz; simpa using g27
              · exact hsm j z (by omega) hz, fun j y z hj hy hz => by
              by_cases e : j + 1 = k
              · subst e
                rw [hxx] at hz; cases hz
                have : ¬ (x.pl : Int) ≤ ((ms.getD j d0).pl : Int) := g36
                rw [getD_at hy] at this
                omega
              · exact hup j y z (by omega) hy hz⟩, by omega, (by repeat (first | exact Sub.nil | refine Sub.cons rfl ?_)), _, (by repeat (first | exact TakeL.nil | (apply TakeL.cons; · repeat (first | exact Take1.head | apply Take1.tail))))⟩
      · refine WC.exit ?_
        refine WC.seq ?_
        refine WC.region ?_
        refine WL.y (Yl.assign rfl) rfl ?_ -- t2
        refine WL.nil ?_
        refine WC.ret ?_
        repeat (first | (with_reducible refine peelT ?_) | (with_reducible refine peelB ?_) | (with_reducible refine peelTX ?_) | (with_reducible refine peelBX ?_) | (with_reducible refine peelBN ?_) | (with_reducible refine peelBO rfl ?_))
        have hkn : k = ms.length := by omega
        subst hkn
        have hs : Small ms := ⟨fun x hx => by obtain ⟨j, hj⟩ := List.getElem?_of_mem hx; exact hsm j x (List.getElem?_eq_some_iff.1 hj).1 hj⟩
        have hu : Up ms := up_of fun j x y h1 h2 => (pl_key (ho x (List.mem_of_getElem? h1)) (ho y (List.mem_of_getElem? h2)) (hs.s x (List.mem_of_getElem? h1)) (hs.s y (List.mem_of_getElem? h2))).2 (hup j x y (List.getElem?_eq_some_iff.1 h2).1 h1 h2)
        have hm : mayF r.e ms = true := (mayF_iff ho).2 ⟨by have := of_decide_eq_false g8; omega, by have := of_decide_eq_false g12; omega, up_len ⟨hu, ho⟩ hs, small_iff.2 hs, hu, ho⟩
        exact ret1 (.inr rfl) Try.results18 rfl fun w' h => ⟨(), trivial, by rw [hm], h.sub (by repeat (first | exact TakeL.nil | (apply TakeL.cons; · repeat (first | exact Take1.head | apply Take1.tail))))⟩
theorem rset_any (r : Rs) (ms : List Dv) (hg : r.g.length = 16) (hl : ms.length ≤ 1099511627776) (ho : DOk ms) (hs : Small ms) (w : World) (hx : RdS w (fpL []) r.v 2 ms.length (vcs Dv.val ms)) (hw : OK w (fpL []) [] w) :
    Fn Try.prog 37 [.agg r.cells.toArray] [] w (fun _ : Nat => True) (fun b => .slice (some ⟨b, 0, none⟩) 32 32) (fun b => [ownR (.slice (some ⟨b, 0, none⟩) 32 32) 4 1 32 (bv (sb (inPl ms)))]) := by
  obtain ⟨ao, cap, hv, hcap, hml⟩ := hx.rd.form
  have a17 := Rs.at17 hg
  rw [hv] at a17 hx
  refine enterF Try.func37 rfl Try.ntmps37 rfl hw ?_
  refine WC.seq ?_
  refine WC.region ?_
  refine WL.to (To.box (cs := r.cells) rfl rfl) rfl ?_ -- t1
  intro b1
  refine WL.y (Yl.assign rfl) rfl ?_ -- t2
  refine WL.nil ?_
  refine WC.seq ?_
  refine WC.region ?_
  refine WL.to (To.makeSlice (n := 32) un68 zb68_4 rfl rfl rfl (by omega) (by unfold maxLen; omega)) rfl ?_ -- t5
  intro b5
  rw [show List.replicate 32 (Value.bool false) = bv (sb (inPl [])) from rfl]
  refine WL.view (fun w h => h.blkOwn (b := b5) (size := 1) (n := 32) (by repeat (first | exact Take1.head | apply Take1.tail)) (by unfold maxLen; omega) rfl) ?_
  refine WL.y (Yl.assign rfl) rfl ?_ -- t3
  refine WL.nil ?_
  refine WC.seq ?_
  refine WC.seq ?_
  refine WC.region ?_
  refine WL.y (Yl.assign rfl) rfl ?_ -- t4
  refine WL.nil ?_
  refine WC.block ?_
  refine WC.loop (α := Nat) (fun k => [(1, .pointer (some ⟨b1, 0, none⟩)), (3, .slice (some ⟨b5, 0, none⟩) 32 32), (4, .int .i64 (k : Int))]) (fun k => [blkR b1 27 r.cells, ownR (.slice (some ⟨b5, 0, none⟩) 32 32) 4 1 32 (bv (sb (inPl (ms.take k))))]) (fun k => k ≤ ms.length) (fun k => ms.length - k) 0 (Nat.zero_le _) ⟨(by repeat (first | exact Sub.nil | refine Sub.cons rfl ?_)), _, (by repeat (first | exact TakeL.nil | (apply TakeL.cons; · repeat (first | exact Take1.head | apply Take1.tail))))⟩ ?_
  rintro k hk
  refine WC.seq ?_
  refine WC.seq ?_
  refine WC.region ?_
  refine WL.y (Yl.move rfl) rfl ?_ -- t6
  refine WL.y (Yl.field fo27_2 rfl) rfl ?_ -- t7
  refine WL.y (Yl.load on25 rfl (by repeat (first | exact Take1.head | apply Take1.tail)) a17) rfl ?_ -- t8
  refine WL.y (Yl.len un25 rfl) rfl ?_ -- t9
  refine WL.y (Yl.lss rfl rfl) rfl ?_ -- t10
  refine WL.nil ?_
  refine WC.condD rfl (fun g10 => ?_) (fun g10 => ?_)
  · refine WC.skip ?_
    refine WC.seq ?_
    refine WC.block ?_
    obtain ⟨x, hxx⟩ : ∃ x, ms[k]? = some x := ⟨_, List.getElem?_eq_getElem (by omega)⟩
    have hxo := ho x (List.mem_of_getElem? hxx)
    have hpl := pl_lt hxo (hs.s x (List.mem_of_getElem? hxx))
    refine WC.region ?_
    refine WL.y (Yl.move rfl) rfl ?_ -- t13
    refine WL.y (Yl.field fo27_2 rfl) rfl ?_ -- t14
    refine WL.y (Yl.load on25 rfl (by repeat (first | exact Take1.head | apply Take1.tail)) a17) rfl ?_ -- t15
    refine WL.y (Yl.move rfl) rfl ?_ -- t16
    refine WL.y (Yl.index un25 sz31 rfl rfl (Reads.s hx) rfl (by omega)) rfl ?_ -- t17
    refine WL.y (Yl.loadV (j := k) (u := x) dvV dvAll rfl (Reads.s hx) rfl hxx) rfl ?_
    refine WL.callC (xs := [.tmp 18]) (cap := []) rfl rfl en26 (by repeat (first | exact TakeL.nil | (apply TakeL.cons; · repeat (first | exact Take1.head | apply Take1.tail)))) (fun w hw => rplace_any x hxo w hw.left.here) rfl ?_ -- t19 hailer/hailerref23.Place
    rintro ⟨⟩ -
    refine WL.y (Yl.index un68 sz4 rfl rfl (Reads.of RdOf.own (by repeat (first | exact Take1.head | apply Take1.tail))) rfl (by omega)) rfl ?_ -- t20
    refine WL.sto (Sto.elem (j := x.pl) (u := .bool true) sz4 rfl rfl (by repeat (first | exact Take1.head | apply Take1.tail)) rfl (by omega) (cs' := bv (sb (inPl (ms.take (k + 1))))) (by rw [bv_set, sb_set hpl, inPl_snoc, take_snoc _ _ _ hxx])) (fun _ h => nomatch h) ?_
    refine WL.nil ?_
    refine WC.region ?_
    refine WL.y (Yl.move rfl) rfl ?_ -- t11
    refine WL.y (Yl.add rfl rfl (IntWalk.i64_in _ (by omega))) rfl ?_ -- t12
    refine WL.y (Yl.assign rfl) rfl ?_ -- t4
    refine WL.nil ?_
    exact ⟨rfl, k + 1, by omega, by omega, (by repeat (first | exact Sub.nil | refine Sub.cons rfl ?_)), _, (by repeat (first | exact TakeL.nil | (apply TakeL.cons; · repeat (first | exact Take1.head | apply Take1.tail))))⟩
  · refine WC.exit ?_
    refine WC.seq ?_
    refine WC.region ?_
    refine WL.y (Yl.move rfl) rfl ?_ -- t21
    refine WL.y (Yl.assign rfl) rfl ?_ -- t2
    refine WL.nil ?_
    refine WC.ret ?_
    repeat (first | (with_reducible refine peelT ?_) | (with_reducible refine peelB ?_) | (with_reducible refine peelTX ?_) | (with_reducible refine peelBX ?_) | (with_reducible refine peelBN ?_) | (with_reducible refine peelBO rfl ?_))
    have hkn : k = ms.length := by omega
    subst hkn
    rw [List.take_length]
    exact ret1 (.inr rfl) Try.results37 rfl fun w' h => ⟨b5, trivial, rfl, h.sub (by repeat (first | exact TakeL.nil | (apply TakeL.cons; · repeat (first | exact Take1.head | apply Take1.tail))))⟩
theorem u8_in' (n : Int) (h : 0 ≤ n ∧ n < 256) : IntKind.u8.wrap n = n := by rw [IntKind.wrap_u8]; omega
theorem listF_succ {f : Nat → Bool} {k : Nat} : listF f (k + 1) = if f k = true then listF f k ++ [dvAt k] else listF f k := by
  unfold listF
  rw [List.range_succ, List.filter_append]
  cases h : f k <;> simp [h]
theorem rlist_any (f : Nat → Bool) (lv : Value) (w : World) (hx : RdS w (fpL []) lv 1 32 (bv (sb f))) (hw : OK w (fpL []) [] w) :
    Fn Try.prog 38 [lv] [] w IsSl (fun y => y) (fun y => [ownR y 31 2 (listF f 32).length (vcs Dv.val (listF f 32))]) := by
  refine enterF Try.func38 rfl Try.ntmps38 rfl hw ?_
  refine WC.seq ?_
  refine WC.region ?_
  refine WL.y (Yl.assign rfl) rfl ?_ -- t2
  refine WL.nil ?_
  refine WC.seq ?_
  refine WC.region ?_
  refine WL.y (Yl.assign rfl) rfl ?_ -- t3
  refine WL.view (fun w h => h.addNil 31 2) ?_
  refine WL.nil ?_
  refine WC.seq ?_
  refine WC.seq ?_
  refine WC.region ?_
  refine WL.y (Yl.assign rfl) rfl ?_ -- t4
  refine WL.nil ?_
  refine WC.block ?_
  refine WC.loop (α := Nat × Value) (fun k => [(0, lv), (3, k.2), (4, .int .i64 (k.1 : Int))]) (fun k => [ownR k.2 31 2 (listF f k.1).length (vcs Dv.val (listF f k.1))]) (fun k => k.1 ≤ 32 ∧ IsSl k.2) (fun k => 32 - k.1) (0, .slice none 0 0) ⟨Nat.zero_le _, _, _, _, rfl⟩ ⟨(by repeat (first | exact Sub.nil | refine Sub.cons rfl ?_)), _, (by repeat (first | exact TakeL.nil | (apply TakeL.cons; · repeat (first | exact Take1.head | apply Take1.tail))))⟩ ?_
  rintro ⟨k, y⟩ ⟨hk, hy⟩
  dsimp only at hk hy ⊢
  refine WC.seq ?_
  refine WC.seq ?_
  refine WC.region ?_
  refine WL.y (Yl.move rfl) rfl ?_ -- t5
  refine WL.y (Yl.lss rfl rfl) rfl ?_ -- t6
  refine WL.nil ?_
  refine WC.condD rfl (fun g6 => ?_) (fun g6 => ?_)
  · refine WC.skip ?_
    refine WC.seq ?_
    refine WC.block ?_
    refine WC.seq ?_
    refine WC.region ?_
    refine WL.y (Yl.move rfl) rfl ?_ -- t9
    refine WL.y (Yl.move rfl) rfl ?_ -- t10
    refine WL.y (Yl.index un68 sz4 rfl rfl (Reads.s hx) rfl (by omega)) rfl ?_ -- t11
    refine WL.y (Yl.loadE (j := k) on4 rfl (Reads.s hx) (bv_get (sb_get (by omega)))) rfl ?_
    refine WL.nil ?_
    refine WC.cond rfl (fun g12 => ?_) (fun g12 => ?_)
    · refine WC.region ?_
      refine WL.y (Yl.move rfl) rfl ?_ -- t13
      refine WL.y (Yl.move rfl) rfl ?_ -- t14
      refine WL.y (Yl.quo rfl rfl (by omega) (i64_quo (by omega) (by omega))) rfl ?_ -- t15
      refine WL.y (Yl.conv un3 un5 rfl (u8_in' _ (by omega))) rfl ?_ -- t16
      refine WL.say (t := 16) (v' := .int .u8 ((k / 4 : Nat) : Int)) rfl (by rw [Int.natCast_ediv]; rfl) ?_
      refine WL.y (Yl.move rfl) rfl ?_ -- t17
      refine WL.y (Yl.rem rfl rfl (by omega) (i64_rem (by omega))) rfl ?_ -- t18
      refine WL.y (Yl.conv un3 un5 rfl (u8_in' _ (by omega))) rfl ?_ -- t19
      refine WL.say (t := 19) (v' := .int .u8 ((k % 4 : Nat) : Int)) rfl (by rw [Int.natCast_emod]; rfl) ?_
      refine WL.y (Yl.build rfl (cs := (dvAt k).cells) (fun _ => by kernel_rfl)) rfl ?_ -- t20
      refine WL.to (To.buildSlice (vs := [.agg (dvAt k).cells.toArray]) un25 zs31 rfl rfl (by intro u hu; simp at hu; subst hu; rfl) (by decide) (by decide)) rfl ?_ -- t21
      intro b21
      rw [show flat [Value.agg (dvAt k).cells.toArray] = (dvAt k).cells from rfl]
      have hsucc : listF f (k + 1) = listF f k ++ [dvAt k] := by rw [listF_succ, if_pos g12]
      have hle := listF_len f k
      refine WL.to (To.append sl25 rfl rfl (by repeat (first | exact Take1.head | apply Take1.tail)) (Reads.of rdDv (by repeat (first | exact Take1.head | apply Take1.tail))) (Dv.ones _) (show (listF f k).length + 1 = (listF f (k + 1)).length by rw [hsucc, List.length_append]; rfl) (show vcs Dv.val (listF f k) ++ (dvAt k).cells = vcs Dv.val (listF f (k + 1)) by rw [hsucc, vcs_app, vcs_one]; simp [Dv.val, Value.cells]) (by have := listF_len f (k + 1); unfold maxLen; omega) (by have := listF_len f (k + 1); omega)) rfl ?_ -- t22
      rintro ⟨⟨ao22, c22⟩, hc22⟩
      dsimp only at hc22 ⊢
      refine WL.y (Yl.assign rfl) rfl ?_ -- t3
      refine WL.view (fun w h => h.addNil 31 2) ?_
      refine WL.nil ?_
      refine WC.region ?_
      refine WL.y (Yl.move rfl) rfl ?_ -- t7
      refine WL.y (Yl.add rfl rfl (IntWalk.i64_in _ (by omega))) rfl ?_ -- t8
      refine WL.y (Yl.assign rfl) rfl ?_ -- t4
      refine WL.nil ?_
      exact ⟨rfl, (k + 1, .slice ao22 (listF f (k + 1)).length c22), ⟨by dsimp only; omega, _, _, _, rfl⟩, by dsimp only; omega, (by repeat (first | exact Sub.nil | refine Sub.cons rfl ?_)), _, (by repeat (first | exact TakeL.nil | (apply TakeL.cons; · repeat (first | exact Take1.head | apply Take1.tail))))⟩
    · refine WC.skip ?_
      refine WC.region ?_
      refine WL.y (Yl.move rfl) rfl ?_ -- t7
      refine WL.y (Yl.add rfl rfl (IntWalk.i64_in _ (by omega))) rfl ?_ -- t8
      refine WL.y (Yl.assign rfl) rfl ?_ -- t4
      refine WL.nil ?_
      have hsucc : listF f (k + 1) = listF f k := by rw [listF_succ, if_neg (by rw [g12]; simp)]
      refine ⟨rfl, (k + 1, y), ⟨by dsimp only; omega, hy⟩, by dsimp only; omega, (by repeat (first | exact Sub.nil | refine Sub.cons rfl ?_)), ?_⟩
      dsimp only
      rw [hsucc]
      exact ⟨_, (by repeat (first | exact TakeL.nil | (apply TakeL.cons; · repeat (first | exact Take1.head | apply Take1.tail))))⟩
  · refine WC.exit ?_
    refine WC.seq ?_
    refine WC.region ?_
    refine WL.y (Yl.move rfl) rfl ?_ -- t23
    refine WL.y (Yl.assign rfl) rfl ?_ -- t2
    refine WL.nil ?_
    refine WC.ret ?_
    repeat (first | (with_reducible refine peelT ?_) | (with_reducible refine peelB ?_) | (with_reducible refine peelTX ?_) | (with_reducible refine peelBX ?_) | (with_reducible refine peelBN ?_) | (with_reducible refine peelBO rfl ?_))
    obtain rfl : k = 32 := by omega
    exact ret1 (.inr rfl) Try.results38 rfl fun w' h => ⟨y, hy, rfl, h.sub (by repeat (first | exact TakeL.nil | (apply TakeL.cons; · repeat (first | exact Take1.head | apply Take1.tail))))⟩
end Go.Proofs.Ytfdnnlcfolgegaa
