/- Rosters: whether one may be; members copied, compared, searched: the walks. -/
import Derived.Test.YtfdnnlcfolgegaaRosP
import Derived.Test.YtfdnnlcfolgegaaLibH
import Derived.Test.YtfdnnlcfolgegaaWireP
namespace Go.Proofs.Ytfdnnlcfolgegaa
open Go Go.RowKit

/-- A roster as cells: group, epoch, the slice of members. -/
structure Rs where
  g : List Int
  e : Int
  v : Value
def Rs.cells (r : Rs) : List Value := ints .u8 r.g ++ [.int .u64 r.e, r.v]
structure Rs.ok (r : Rs) : Prop where
  len : r.g.length = 16
  b : ∀ x ∈ r.g, 0 ≤ x ∧ x < 256
  e : 0 ≤ r.e ∧ r.e < 18446744073709551616
theorem Rs.at16 {r : Rs} (h : r.g.length = 16) : r.cells[16]? = some (.int .u64 r.e) := by
  unfold Rs.cells
  rw [List.getElem?_append_right (by rw [ints_length]; omega), ints_length, h]; rfl
theorem Rs.at17 {r : Rs} (h : r.g.length = 16) : r.cells[17]? = some r.v := by
  unfold Rs.cells
  rw [List.getElem?_append_right (by rw [ints_length]; omega), ints_length, h]; rfl
theorem Rs.len18 {r : Rs} (h : r.g.length = 16) : r.cells.length = 18 := by simp [Rs.cells, ints_length, h]
theorem Rs.grp {r : Rs} (h : r.g.length = 16) : (r.cells.drop 0).take 16 = ints .u8 r.g := by
  unfold Rs.cells
  rw [List.drop_zero, List.take_left' (by rw [ints_length, h])]
theorem Rs.one {r : Rs} (hv : r.v.oneCell' = true) : ∀ u ∈ r.cells, u.oneCell' = true := by
  intro u hu
  rcases List.mem_append.1 hu with h | h
  · exact ints_one _ _ u h
  · simp at h
    rcases h with rfl | rfl
    · rfl
    · exact hv
theorem flatD : Flat Try.prog 31 [some .u8, some .u8] := Flat.mk' 5 (by decide) (by kernel_rfl) (by kernel_rfl)
theorem Dv.fits {x : Dv} (h : x.ok) : Fits1 [some .u8, some .u8] x.cells := ⟨⟨rfl, wfB8 h.1⟩, ⟨rfl, wfB8 h.2⟩, trivial⟩
theorem Dv.eqV {x y : Dv} : eqV x.cells y.cells = decide (x = y) := by
  by_cases h : x = y
  · subst h; rw [eqV_self]; simp
  · rw [eqV_ne, decide_eq_false h]
    intro e
    apply h
    obtain ⟨a, d⟩ := x
    obtain ⟨b, f⟩ := y
    simp [Dv.cells] at e
    rw [e.1, e.2]

set_option maxRecDepth 100000 in
theorem may_any (r : Rs) (ms : List Dv) (hg : r.g.length = 16) (hl : ms.length ≤ 1099511627776) (w : World) (hx : RdS w (fpL []) r.v 2 ms.length (vcs Dv.val ms)) (hw : OK w (fpL []) [] w) :
    Fn Try.prog 16 [.agg r.cells.toArray] [] w (fun _ : Unit => True) (fun _ => .bool (mayF r.e ms)) (fun _ => []) := by
  obtain ⟨ao, cap, hv, hcap, hml⟩ := hx.rd.form
  have a16 := Rs.at16 hg
  have a17 := Rs.at17 hg
  rw [hv] at a17 hx
  refine enterF Try.func16 rfl Try.ntmps16 rfl hw ?_
  refine WC.seq ?_
  refine WC.region ?_
  refine WL.to (To.box (cs := r.cells) rfl rfl) rfl ?_ -- t1
  intro b1
  refine WL.y (Yl.assign rfl) rfl ?_ -- t2
  refine WL.nil ?_
  refine WC.seq ?_
  refine WC.seq ?_
  refine WC.region ?_
  refine WL.y (Yl.field fo27_1 rfl) rfl ?_ -- t4
  refine WL.y (Yl.load on24 rfl (by repeat (first | exact Take1.head | apply Take1.tail)) a16) rfl ?_ -- t5
  refine WL.y (Yl.lss rfl rfl) rfl ?_ -- t6
  refine WL.y (Yl.move rfl) rfl ?_ -- t7
  refine WL.both (t := 7) rfl (fun g7 => ?_) (fun g7 => ?_)
  · refine WL.off rfl rfl rfl rfl ?_ -- t8
    refine WL.off rfl rfl rfl rfl ?_ -- t9
    refine WL.off rfl rfl rfl rfl ?_ -- t10
    refine WL.y (Yl.pickT rfl rfl) rfl ?_ -- t11
    refine WL.y (Yl.move rfl) rfl ?_ -- t12
    refine WL.off rfl rfl rfl rfl ?_ -- t13
    refine WL.off rfl rfl rfl rfl ?_ -- t14
    refine WL.off rfl rfl rfl rfl ?_ -- t15
    refine WL.off rfl rfl rfl rfl ?_ -- t16
    refine WL.y (Yl.pickT rfl rfl) rfl ?_ -- t17
    refine WL.y (Yl.move rfl) rfl ?_ -- t18
    refine WL.off rfl rfl rfl rfl ?_ -- t19
    refine WL.off rfl rfl rfl rfl ?_ -- t20
    refine WL.off rfl rfl rfl rfl ?_ -- t21
    refine WL.off rfl rfl rfl rfl ?_ -- t22
    refine WL.y (Yl.pickT rfl rfl) rfl ?_ -- t23
    refine WL.nil ?_
    refine WC.condT rfl (by first | rfl | (simp; done) | (simp; omega)) ?_
    refine WC.seq ?_
    refine WC.region ?_
    refine WL.y (Yl.assign rfl) rfl ?_ -- t2
    refine WL.nil ?_
    refine WC.ret ?_
    repeat (first | (with_reducible refine peelT ?_) | (with_reducible refine peelB ?_) | (with_reducible refine peelTX ?_) | (with_reducible refine peelBX ?_) | (with_reducible refine peelBN ?_) | (with_reducible refine peelBO rfl ?_))
    exact ret1 (.inr rfl) Try.results16 rfl fun w' h => ⟨(), trivial, by unfold mayF; rw [g7]; rfl, h.sub (by repeat (first | exact TakeL.nil | (apply TakeL.cons; · repeat (first | exact Take1.head | apply Take1.tail))))⟩
  · refine WL.on rfl rfl ?_
    refine WL.y (Yl.field fo27_1 rfl) rfl ?_ -- t8
    refine WL.on rfl rfl ?_
    refine WL.y (Yl.load on24 rfl (by repeat (first | exact Take1.head | apply Take1.tail)) a16) rfl ?_ -- t9
    refine WL.on rfl rfl ?_
    refine WL.y (Yl.gtr rfl rfl) rfl ?_ -- t10
    refine WL.y (Yl.pickF rfl rfl) rfl ?_ -- t11
    refine WL.y (Yl.move rfl) rfl ?_ -- t12
    refine WL.both (t := 12) rfl (fun g12 => ?_) (fun g12 => ?_)
    · refine WL.off rfl rfl rfl rfl ?_ -- t13
      refine WL.off rfl rfl rfl rfl ?_ -- t14
      refine WL.off rfl rfl rfl rfl ?_ -- t15
      refine WL.off rfl rfl rfl rfl ?_ -- t16
      refine WL.y (Yl.pickT rfl rfl) rfl ?_ -- t17
      refine WL.y (Yl.move rfl) rfl ?_ -- t18
      refine WL.off rfl rfl rfl rfl ?_ -- t19
      refine WL.off rfl rfl rfl rfl ?_ -- t20
      refine WL.off rfl rfl rfl rfl ?_ -- t21
      refine WL.off rfl rfl rfl rfl ?_ -- t22
      refine WL.y (Yl.pickT rfl rfl) rfl ?_ -- t23
      refine WL.nil ?_
      refine WC.condT rfl (by first | rfl | (simp; done) | (simp; omega)) ?_
      refine WC.seq ?_
      refine WC.region ?_
      refine WL.y (Yl.assign rfl) rfl ?_ -- t2
      refine WL.nil ?_
      refine WC.ret ?_
      repeat (first | (with_reducible refine peelT ?_) | (with_reducible refine peelB ?_) | (with_reducible refine peelTX ?_) | (with_reducible refine peelBX ?_) | (with_reducible refine peelBN ?_) | (with_reducible refine peelBO rfl ?_))
      exact ret1 (.inr rfl) Try.results16 rfl fun w' h => ⟨(), trivial, by unfold mayF; rw [g12]; simp, h.sub (by repeat (first | exact TakeL.nil | (apply TakeL.cons; · repeat (first | exact Take1.head | apply Take1.tail))))⟩
    · refine WL.on rfl rfl ?_
      refine WL.y (Yl.field fo27_2 rfl) rfl ?_ -- t13
      refine WL.on rfl rfl ?_
      refine WL.y (Yl.load on25 rfl (by repeat (first | exact Take1.head | apply Take1.tail)) a17) rfl ?_ -- t14
      refine WL.on rfl rfl ?_
      refine WL.y (Yl.len un25 rfl) rfl ?_ -- t15
      refine WL.on rfl rfl ?_
      refine WL.y (Yl.gtr rfl rfl) rfl ?_ -- t16
      refine WL.y (Yl.pickF rfl rfl) rfl ?_ -- t17
      refine WL.y (Yl.move rfl) rfl ?_ -- t18
      refine WL.both (t := 18) rfl (fun g18 => ?_) (fun g18 => ?_)
      · refine WL.off rfl rfl rfl rfl ?_ -- t19
        refine WL.off rfl rfl rfl rfl ?_ -- t20
        refine WL.off rfl rfl rfl rfl ?_ -- t21
        refine WL.off rfl rfl rfl rfl ?_ -- t22
        refine WL.y (Yl.pickT rfl rfl) rfl ?_ -- t23
        refine WL.nil ?_
        refine WC.condT rfl (by first | rfl | (simp; done) | (simp; omega)) ?_
        refine WC.seq ?_
        refine WC.region ?_
        refine WL.y (Yl.assign rfl) rfl ?_ -- t2
        refine WL.nil ?_
        refine WC.ret ?_
        repeat (first | (with_reducible refine peelT ?_) | (with_reducible refine peelB ?_) | (with_reducible refine peelTX ?_) | (with_reducible refine peelBX ?_) | (with_reducible refine peelBN ?_) | (with_reducible refine peelBO rfl ?_))
        exact ret1 (.inr rfl) Try.results16 rfl fun w' h => ⟨(), trivial, by
          unfold mayF
          rw [show decide (32 < ms.length) = true by have := of_decide_eq_true g18; exact decide_eq_true (by omega)]; simp, h.sub (by repeat (first | exact TakeL.nil | (apply TakeL.cons; · repeat (first | exact Take1.head | apply Take1.tail))))⟩
      · refine WL.on rfl rfl ?_
        refine WL.y (Yl.field fo27_2 rfl) rfl ?_ -- t19
        refine WL.on rfl rfl ?_
        refine WL.y (Yl.load on25 rfl (by repeat (first | exact Take1.head | apply Take1.tail)) a17) rfl ?_ -- t20
        refine WL.on rfl rfl ?_
        refine WL.callC (xs := [.tmp 20]) (cap := []) rfl rfl en39 (by repeat (first | exact TakeL.nil | (apply TakeL.cons; · repeat (first | exact Take1.head | apply Take1.tail)))) (fun w hw => small_any (.slice ao ms.length cap) ms (by omega) w (hw.srcS (A := []) hx) hw.left.here) rfl ?_ -- t21 hailer/roster.small
        rintro ⟨⟩ -
        refine WL.on rfl rfl ?_
        refine WL.y (Yl.not rfl) rfl ?_ -- t22
        refine WL.y (Yl.pickF rfl rfl) rfl ?_ -- t23
        refine WL.nil ?_
        refine WC.cond rfl (fun g23 => ?_) (fun g23 => ?_)
        · refine WC.seq ?_
          refine WC.region ?_
          refine WL.y (Yl.assign rfl) rfl ?_ -- t2
          refine WL.nil ?_
          refine WC.ret ?_
          repeat (first | (with_reducible refine peelT ?_) | (with_reducible refine peelB ?_) | (with_reducible refine peelTX ?_) | (with_reducible refine peelBX ?_) | (with_reducible refine peelBN ?_) | (with_reducible refine peelBO rfl ?_))
          exact ret1 (.inr rfl) Try.results16 rfl fun w' h => ⟨(), trivial, by unfold mayF; rw [show ms.any Dv.big = true by simpa using g23]; simp, h.sub (by repeat (first | exact TakeL.nil | (apply TakeL.cons; · repeat (first | exact Take1.head | apply Take1.tail))))⟩
        · refine WC.skip ?_
          refine WC.seq ?_
          refine WC.seq ?_
          refine WC.region ?_
          refine WL.y (Yl.assign rfl) rfl ?_ -- t3
          refine WL.nil ?_
          refine WC.block ?_
          refine WC.loop (α := Nat) (fun k => [(1, .pointer (some ⟨b1, 0, none⟩)), (3, .int .i64 ((k + 1 : Nat) : Int))]) (fun _ => [blkR b1 27 r.cells]) (fun k => (k = 0 ∨ k + 1 ≤ ms.length) ∧ ((List.range (k + 1)).all fun j => decide (j = 0) || decide (ordF (ms.getD (j - 1) d0) (ms.getD j d0) < 0)) = true) (fun k => ms.length - k) 0 ⟨.inl rfl, rfl⟩ ⟨(by repeat (first | exact Sub.nil | refine Sub.cons rfl ?_)), _, (by repeat (first | exact TakeL.nil | (apply TakeL.cons; · repeat (first | exact Take1.head | apply Take1.tail))))⟩ ?_
          rintro k ⟨hk, hup⟩
          refine WC.seq ?_
          refine WC.seq ?_
          refine WC.region ?_
          refine WL.y (Yl.move rfl) rfl ?_ -- t24
          refine WL.y (Yl.field fo27_2 rfl) rfl ?_ -- t25
          refine WL.y (Yl.load on25 rfl (by repeat (first | exact Take1.head | apply Take1.tail)) a17) rfl ?_ -- t26
          refine WL.y (Yl.len un25 rfl) rfl ?_ -- t27
          refine WL.y (Yl.lss rfl rfl) rfl ?_ -- t28
          refine WL.nil ?_
          refine WC.condD rfl (fun g28 => ?_) (fun g28 => ?_)
          · refine WC.skip ?_
            refine WC.seq ?_
            refine WC.block ?_
            refine WC.seq ?_
            have hlt : k + 1 < ms.length := by omega
            obtain ⟨x, hxx⟩ : ∃ x, ms[k]? = some x := ⟨_, List.getElem?_eq_getElem (by omega)⟩
            obtain ⟨y, hyy⟩ : ∃ y, ms[k + 1]? = some y := ⟨_, List.getElem?_eq_getElem (by omega)⟩
            refine WC.drawTail 11 mixed (by kernel_rfl) ?_
            refine WH.y (Yl.field fo27_2 rfl) rfl ?_ -- t31
            refine WH.y (Yl.load on25 rfl (by repeat (first | exact Take1.head | apply Take1.tail)) a17) rfl ?_ -- t32
            refine WH.y (Yl.move rfl) rfl ?_ -- t33
            refine WH.y (Yl.sub rfl rfl (IntWalk.i64_in _ (by omega))) rfl ?_ -- t34
            refine WH.say (t := 34) (v' := .int .i64 (k : Int)) rfl (by congr 1; omega) ?_
            refine WH.y (Yl.index un25 sz31 rfl rfl (Reads.s hx) rfl (by omega)) rfl ?_ -- t35
            refine WH.y (Yl.loadV (j := k) (u := x) dvV dvAll rfl (Reads.s hx) rfl hxx) rfl ?_
            refine WH.y (Yl.field fo27_2 rfl) rfl ?_ -- t37
            refine WH.y (Yl.load on25 rfl (by repeat (first | exact Take1.head | apply Take1.tail)) a17) rfl ?_ -- t38
            refine WH.y (Yl.move rfl) rfl ?_ -- t39
            refine WH.y (Yl.index un25 sz31 rfl rfl (Reads.s hx) rfl (by omega)) rfl ?_ -- t40
            refine WH.y (Yl.loadV (j := k + 1) (u := y) dvV dvAll rfl (Reads.s hx) rfl hyy) rfl ?_
            refine WH.nil ?_
            refine WP.callC (xs := [.tmp 36, .tmp 41]) (cap := []) rfl rfl en32 (by repeat (first | exact TakeL.nil | (apply TakeL.cons; · repeat (first | exact Take1.head | apply Take1.tail)))) (fun w hw => order_any x y w hw.left.here) rfl ?_ -- t42 hailer/roster.order
            rintro ⟨⟩ -
            refine WP.y (Yl.geq rfl rfl) rfl ?_ -- t43
            refine WP.nil ?_
            refine WC.condD rfl (fun g43 => ?_) (fun g43 => ?_)
            · refine WC.seq ?_
              refine WC.region ?_
              refine WL.y (Yl.assign rfl) rfl ?_ -- t2
              refine WL.nil ?_
              refine WC.ret ?_
              repeat (first | (with_reducible refine peelT ?_) | (with_reducible refine peelB ?_) | (with_reducible refine peelTX ?_) | (with_reducible refine peelBX ?_) | (with_reducible refine peelBN ?_) | (with_reducible refine peelBO rfl ?_))
              exact ret1 (.inr rfl) Try.results16 rfl fun w' h => ⟨(), trivial, by
                have : upB ms = false := by
                  cases hu : upB ms with
                  | false => rfl
                  | true =>
                    unfold upB at hu
                    rw [List.all_eq_true] at hu
                    have := hu (k + 1) (List.mem_range.2 hlt)
                    simp only [Nat.add_one_ne_zero, decide_false, Bool.false_or, decide_eq_true_eq, Nat.add_sub_cancel] at this
                    rw [getD_at hxx, getD_at hyy] at this
                    omega
                unfold mayF
                rw [this]; simp, h.sub (by repeat (first | exact TakeL.nil | (apply TakeL.cons; · repeat (first | exact Take1.head | apply Take1.tail))))⟩
            · refine WC.skip ?_
              refine WC.region ?_
              refine WL.y (Yl.move rfl) rfl ?_ -- t29
              refine WL.y (Yl.add rfl rfl (IntWalk.i64_in _ (by omega))) rfl ?_ -- t30
              refine WL.y (Yl.assign rfl) rfl ?_ -- t3
              refine WL.nil ?_
              exact ⟨rfl, k + 1, ⟨.inr (by omega), by
                rw [List.range_succ, List.all_append, hup]
                simp only [List.all_cons, List.all_nil, Bool.and_true, Bool.true_and, Nat.add_one_ne_zero, decide_false, Bool.false_or, Nat.add_sub_cancel, decide_eq_true_eq]
                rw [getD_at hxx, getD_at hyy]
                omega⟩, by omega, (by repeat (first | exact Sub.nil | refine Sub.cons rfl ?_)), _, (by repeat (first | exact TakeL.nil | (apply TakeL.cons; · repeat (first | exact Take1.head | apply Take1.tail))))⟩
          · refine WC.exit ?_
            refine WC.seq ?_
            refine WC.region ?_
            refine WL.y (Yl.assign rfl) rfl ?_ -- t2
            refine WL.nil ?_
            refine WC.ret ?_
            repeat (first | (with_reducible refine peelT ?_) | (with_reducible refine peelB ?_) | (with_reducible refine peelTX ?_) | (with_reducible refine peelBX ?_) | (with_reducible refine peelBN ?_) | (with_reducible refine peelBO rfl ?_))
            have hup2 : upB ms = true := by
              unfold upB
              by_cases h0 : ms.length = 0
              · rw [h0]; rfl
              · rw [show ms.length = k + 1 by omega]; exact hup
            exact ret1 (.inr rfl) Try.results16 rfl fun w' h => ⟨(), trivial, by
              unfold mayF
              rw [g7, g12, show decide (32 < ms.length) = false by have := of_decide_eq_false g18; exact decide_eq_false (by omega), show ms.any Dv.big = false by simpa using g23, hup2]; rfl, h.sub (by repeat (first | exact TakeL.nil | (apply TakeL.cons; · repeat (first | exact Take1.head | apply Take1.tail))))⟩
theorem cloneD_any (v : Value) (xs : List Dv) (hl : xs.length ≤ 1099511627776) (w : World) (hx : RdS w (fpL []) v 2 xs.length (vcs Dv.val xs)) (hw : OK w (fpL []) [] w) :
    Fn Try.prog 7 [v] [] w (fun _ : Option Addr × Nat => True) (fun y => .slice y.1 xs.length y.2) (fun y => [ownR (.slice y.1 xs.length y.2) 31 2 xs.length (vcs Dv.val xs)]) := by
  obtain ⟨al, cl, rfl, hcl, hml⟩ := hx.rd.form
  refine enterF Try.func7 rfl Try.ntmps7 rfl hw ?_
  refine WC.seq ?_
  refine WC.region ?_
  refine WL.y (Yl.assign rfl) rfl ?_ -- t2
  refine WL.nil ?_
  refine WC.seq ?_
  refine WC.seq ?_
  refine WC.region ?_
  refine WL.y (Yl.move rfl) rfl ?_ -- t3
  refine WL.y (Yl.eqNil un25 rfl rfl) rfl ?_
  refine WL.nil ?_
  refine WC.cond rfl (fun g4 => ?_) (fun g4 => ?_)
  · refine WC.seq ?_
    refine WC.region ?_
    refine WL.y (Yl.assign rfl) rfl ?_ -- t2
    refine WL.nil ?_
    refine WC.ret ?_
    repeat (first | (with_reducible refine peelT ?_) | (with_reducible refine peelB ?_) | (with_reducible refine peelTX ?_) | (with_reducible refine peelBX ?_) | (with_reducible refine peelBN ?_) | (with_reducible refine peelBO rfl ?_))
    have h0 : xs.length = 0 := by
      rcases hx.rd.2 with ⟨_, h0⟩ | ⟨a, cap, he, _⟩
      · exact h0
      · cases he; simp at g4
    have hxs : xs = [] := List.eq_nil_of_length_eq_zero h0
    subst hxs
    exact ret1 (.inr rfl) Try.results7 rfl fun w' h => ⟨(none, 0), trivial, rfl, (h.addNil 31 2).sub (by repeat (first | exact TakeL.nil | (apply TakeL.cons; · repeat (first | exact Take1.head | apply Take1.tail))))⟩
  · refine WC.skip ?_
    refine WC.seq ?_
    refine WC.region ?_
    refine WL.to (To.buildSlice (vs := []) un25 zs31 rfl rfl (by simp) (by decide) (by decide)) rfl ?_
    intro b5
    rw [show flat [] = [] from rfl]
    refine WL.view (fun w h => h.blkOwn (b := b5) (size := 2) (n := 0) (by repeat (first | exact Take1.head | apply Take1.tail)) (by unfold maxLen; omega) rfl) ?_
    refine WL.y (Yl.move rfl) rfl ?_ -- t6
    refine WL.to (To.append sl25 rfl rfl (by repeat (first | exact Take1.head | apply Take1.tail)) (Reads.s hx) (dvV.ones _) (Nat.zero_add _) (List.nil_append _) (by unfold maxLen; omega) (by omega)) rfl ?_ -- t7
    rintro ⟨⟨ao7, c7⟩, hc7⟩
    dsimp only at hc7 ⊢
    refine WL.y (Yl.assign rfl) rfl ?_ -- t2
    refine WL.nil ?_
    refine WC.ret ?_
    repeat (first | (with_reducible refine peelT ?_) | (with_reducible refine peelB ?_) | (with_reducible refine peelTX ?_) | (with_reducible refine peelBX ?_) | (with_reducible refine peelBN ?_) | (with_reducible refine peelBO rfl ?_))
    exact ret1 (.inr rfl) Try.results7 rfl fun w' h => ⟨(ao7, c7), trivial, rfl, h.sub (by repeat (first | exact TakeL.nil | (apply TakeL.cons; · repeat (first | exact Take1.head | apply Take1.tail))))⟩
theorem equalD_any (v1 v2 : Value) (xs ys : List Dv) (h1 : DOk xs) (h2 : DOk ys) (hl : xs.length ≤ 1099511627776) (w : World) (hx : RdS w (fpL []) v1 2 xs.length (vcs Dv.val xs)) (hy : RdS w (fpL []) v2 2 ys.length (vcs Dv.val ys)) (hw : OK w (fpL []) [] w) :
    Fn Try.prog 12 [v1, v2] [] w (fun _ : Unit => True) (fun _ => .bool (decide (xs = ys))) (fun _ => []) := by
  obtain ⟨al, cl, rfl, hcl, hml⟩ := hx.rd.form
  obtain ⟨bl, dl, rfl, hdl, hml2⟩ := hy.rd.form
  refine enterF Try.func12 rfl Try.ntmps12 rfl hw ?_
  refine WC.seq ?_
  refine WC.region ?_
  refine WL.y (Yl.assign rfl) rfl ?_ -- t4
  refine WL.nil ?_
  refine WC.seq ?_
  refine WC.seq ?_
  refine WC.region ?_
  refine WL.y (Yl.move rfl) rfl ?_ -- t6
  refine WL.y (Yl.len un25 rfl) rfl ?_ -- t7
  refine WL.y (Yl.move rfl) rfl ?_ -- t8
  refine WL.y (Yl.len un25 rfl) rfl ?_ -- t9
  refine WL.y (Yl.neq rfl rfl) rfl ?_ -- t10
  refine WL.nil ?_
  refine WC.condD rfl (fun g10 => ?_) (fun g10 => ?_)
  · refine WC.seq ?_
    refine WC.region ?_
    refine WL.y (Yl.assign rfl) rfl ?_ -- t4
    refine WL.nil ?_
    refine WC.ret ?_
    repeat (first | (with_reducible refine peelT ?_) | (with_reducible refine peelB ?_) | (with_reducible refine peelTX ?_) | (with_reducible refine peelBX ?_) | (with_reducible refine peelBN ?_) | (with_reducible refine peelBO rfl ?_))
    exact ret1 (.inr rfl) Try.results12 rfl fun w' h => ⟨(), trivial, by rw [decide_eq_false]; intro e; subst e; omega, h.sub (by repeat (first | exact TakeL.nil | (apply TakeL.cons; · repeat (first | exact Take1.head | apply Take1.tail))))⟩
  · refine WC.skip ?_
    refine WC.seq ?_
    refine WC.seq ?_
    refine WC.region ?_
    refine WL.y (Yl.move rfl) rfl ?_ -- t11
    refine WL.y (Yl.len un25 rfl) rfl ?_ -- t12
    refine WL.y (Yl.move rfl) rfl ?_ -- t13
    refine WL.nil ?_
    refine WC.block ?_
    refine WC.loop (α := Nat) (fun k => [(0, .slice al xs.length cl), (1, .slice bl ys.length dl), (12, .int .i64 (xs.length : Int)), (13, .int .i64 (k : Int))]) (fun _ => []) (fun k => k ≤ xs.length ∧ xs.take k = ys.take k) (fun k => xs.length - k) 0 ⟨Nat.zero_le _, rfl⟩ ⟨(by repeat (first | exact Sub.nil | refine Sub.cons rfl ?_)), _, (by repeat (first | exact TakeL.nil | (apply TakeL.cons; · repeat (first | exact Take1.head | apply Take1.tail))))⟩ ?_
    rintro k ⟨hk, hsame⟩
    refine WC.seq ?_
    refine WC.region ?_
    refine WL.y (Yl.lss rfl rfl) rfl ?_ -- t14
    refine WL.nil ?_
    refine WC.seq ?_
    refine WC.condD rfl (fun g14 => ?_) (fun g14 => ?_)
    · refine WC.skip ?_
      refine WC.seq ?_
      refine WC.block ?_
      refine WC.seq ?_
      refine WC.region ?_
      refine WL.y (Yl.move rfl) rfl ?_ -- t15
      refine WL.y (Yl.assign rfl) rfl ?_ -- t5
      refine WL.nil ?_
      refine WC.seq ?_
      obtain ⟨x, hxx⟩ : ∃ x, xs[k]? = some x := ⟨_, List.getElem?_eq_getElem (by omega)⟩
      obtain ⟨y, hyy⟩ : ∃ y, ys[k]? = some y := ⟨_, List.getElem?_eq_getElem (by omega)⟩
      refine WC.drawRead mixed (by kernel_rfl) ?_
      refine WH.y (Yl.move rfl) rfl ?_ -- t16
      refine WH.y (Yl.move rfl) rfl ?_ -- t17
      refine WH.y (Yl.index un25 sz31 rfl rfl (Reads.s hx) rfl (by omega)) rfl ?_ -- t18
      refine WH.y (Yl.loadV (j := k) (u := x) dvV dvAll rfl (Reads.s hx) rfl hxx) rfl ?_
      refine WH.y (Yl.move rfl) rfl ?_ -- t20
      refine WH.y (Yl.move rfl) rfl ?_ -- t21
      refine WH.y (Yl.index un25 sz31 rfl rfl (Reads.s hy) rfl (by omega)) rfl ?_ -- t22
      refine WH.y (Yl.loadV (j := k) (u := y) dvV dvAll rfl (Reads.s hy) rfl hyy) rfl ?_
      refine WH.y (Yl.neA (xs := x.cells) (ys := y.cells) flatD rfl rfl (Dv.fits (h1 x (List.mem_of_getElem? hxx))) (Dv.fits (h2 y (List.mem_of_getElem? hyy)))) rfl ?_
      refine WH.say (t := 24) (v' := .bool (decide (x ≠ y))) rfl (by rw [Dv.eqV]; simp) ?_
      refine WH.nil ?_
      refine WC.condD rfl (fun g24 => ?_) (fun g24 => ?_)
      · refine WC.seq ?_
        refine WC.region ?_
        refine WL.y (Yl.assign rfl) rfl ?_ -- t4
        refine WL.nil ?_
        refine WC.ret ?_
        repeat (first | (with_reducible refine peelT ?_) | (with_reducible refine peelB ?_) | (with_reducible refine peelTX ?_) | (with_reducible refine peelBX ?_) | (with_reducible refine peelBN ?_) | (with_reducible refine peelBO rfl ?_))
        exact ret1 (.inr rfl) Try.results12 rfl fun w' h => ⟨(), trivial, by rw [decide_eq_false]; intro e; subst e; rw [hxx] at hyy; cases hyy; exact g24 rfl, h.sub (by repeat (first | exact TakeL.nil | (apply TakeL.cons; · repeat (first | exact Take1.head | apply Take1.tail))))⟩
      · refine WC.skip ?_
        refine WC.region ?_
        refine WL.y (Yl.add rfl rfl (IntWalk.i64_in _ (by omega))) rfl ?_ -- t25
        refine WL.y (Yl.move rfl) rfl ?_ -- t13
        refine WL.nil ?_
        exact ⟨rfl, k + 1, ⟨by omega, by
          have e : x = y := Classical.not_not.1 g24
          rw [← take_snoc _ _ _ hxx, ← take_snoc _ _ _ hyy, hsame, e]⟩, by omega, (by repeat (first | exact Sub.nil | refine Sub.cons rfl ?_)), _, (by repeat (first | exact TakeL.nil | (apply TakeL.cons; · repeat (first | exact Take1.head | apply Take1.tail))))⟩
    · refine WC.exit ?_
      refine WC.seq ?_
      refine WC.region ?_
      refine WL.y (Yl.assign rfl) rfl ?_ -- t4
      refine WL.nil ?_
      refine WC.ret ?_
      repeat (first | (with_reducible refine peelT ?_) | (with_reducible refine peelB ?_) | (with_reducible refine peelTX ?_) | (with_reducible refine peelBX ?_) | (with_reducible refine peelBN ?_) | (with_reducible refine peelBO rfl ?_))
      have hkn : k = xs.length := by omega
      subst hkn
      have hlen : xs.length = ys.length := by omega
      rw [List.take_length, hlen, List.take_length] at hsame
      exact ret1 (.inr rfl) Try.results12 rfl fun w' h => ⟨(), trivial, by rw [decide_eq_true hsame], h.sub (by repeat (first | exact TakeL.nil | (apply TakeL.cons; · repeat (first | exact Take1.head | apply Take1.tail))))⟩
theorem bsf_any (ao : Option Addr) (cap : Nat) (xs : List Dv) (d : Dv) (hl : xs.length ≤ 1099511627776) (hG : Good xs) (hd : d.ok) (w : World) (hx : RdS w (fpL []) (.slice ao xs.length cap) 2 xs.length (vcs Dv.val xs)) (hw : OK w (fpL []) [] w) :
    Fn Try.prog 31 [.slice ao xs.length cap, d.val, .func (.func 32) #[] #[]] [] w (fun _ : Unit => True) (fun _ => .tuple #[.int .i64 (posF xs d : Int), .bool (inF xs d)]) (fun _ => []) := by
  refine enterF Try.func31 rfl Try.ntmps31 rfl hw ?_
  refine WC.seq ?_
  refine WC.region ?_
  refine WL.to (To.box (cs := d.cells) rfl rfl) rfl ?_ -- t4
  intro b4
  refine WL.y (Yl.assign rfl) rfl ?_ -- t6
  refine WL.y (Yl.assign rfl) rfl ?_ -- t7
  refine WL.nil ?_
  refine WC.seq ?_
  refine WC.region ?_
  refine WL.y (Yl.move rfl) rfl ?_ -- t12
  refine WL.y (Yl.len un25 rfl) rfl ?_ -- t13
  refine WL.y (Yl.assign rfl) rfl ?_ -- t8
  refine WL.nil ?_
  refine WC.seq ?_
  refine WC.region ?_
  refine WL.y (Yl.move rfl) rfl ?_ -- t14
  refine WL.y (Yl.assign rfl) rfl ?_ -- t9
  refine WL.y (Yl.assign rfl) rfl ?_ -- t10
  refine WL.nil ?_
  refine WC.seq ?_
  refine WC.block ?_
  refine WC.loop (α := Nat × Nat) (fun k => [(0, .slice ao xs.length cap), (2, .func (.func 32) #[] #[]), (4, .pointer (some ⟨b4, 0, none⟩)), (8, .int .i64 (xs.length : Int)), (9, .int .i64 (k.1 : Int)), (10, .int .i64 (k.2 : Int))]) (fun _ => [blkR b4 31 d.cells])
    (fun k => k.1 ≤ k.2 ∧ k.2 ≤ xs.length ∧ (∀ j x, j < k.1 → xs[j]? = some x → x.key < d.key) ∧ (∀ j x, k.2 ≤ j → xs[j]? = some x → d.key ≤ x.key)) (fun k => k.2 - k.1) (0, xs.length) ⟨Nat.zero_le _, Nat.le_refl _, fun j x h => absurd h (Nat.not_lt_zero _), fun j x h1 h2 => absurd (List.getElem?_eq_some_iff.1 h2).1 (by omega)⟩ ⟨(by repeat (first | exact Sub.nil | refine Sub.cons rfl ?_)), _, (by repeat (first | exact TakeL.nil | (apply TakeL.cons; · repeat (first | exact Take1.head | apply Take1.tail))))⟩ ?_
  rintro ⟨i, j⟩ ⟨hij, hj, hlo, hhi⟩
  dsimp only at hij hj hlo hhi ⊢
  refine WC.seq ?_
  refine WC.seq ?_
  refine WC.region ?_
  refine WL.y (Yl.move rfl) rfl ?_ -- t15
  refine WL.y (Yl.move rfl) rfl ?_ -- t16
  refine WL.y (Yl.lss rfl rfl) rfl ?_ -- t17
  refine WL.nil ?_
  refine WC.condD rfl (fun g17 => ?_) (fun g17 => ?_)
  · refine WC.skip ?_
    refine WC.block ?_
    refine WC.seq ?_
    refine WC.region ?_
    refine WL.y (Yl.move rfl) rfl ?_ -- t18
    refine WL.y (Yl.move rfl) rfl ?_ -- t19
    refine WL.y (Yl.add rfl rfl (IntWalk.i64_in _ (by omega))) rfl ?_ -- t20
    refine WL.y (Yl.conv un3 un89 rfl (u64_in _ (by omega))) rfl ?_ -- t21
    refine WL.y (Yl.shr rfl rfl ⟨by omega, (by simp [IntKind.bits]; try omega)⟩ rfl) rfl ?_ -- t22
    refine WL.say (t := 22) (v' := .int .u64 (((i + j) / 2 : Nat) : Int)) rfl (by congr 1) ?_
    refine WL.y (Yl.conv un89 un3 rfl (IntWalk.i64_in _ (by omega))) rfl ?_ -- t23
    refine WL.y (Yl.assign rfl) rfl ?_ -- t11
    refine WL.nil ?_
    refine WC.seq ?_
    obtain ⟨m, hm⟩ : ∃ m, m = (i + j) / 2 := ⟨_, rfl⟩
    rw [← hm]
    have hmi : i ≤ m := by omega
    have hmj : m < j := by omega
    obtain ⟨x, hxx⟩ : ∃ x, xs[m]? = some x := ⟨_, List.getElem?_eq_getElem (by omega)⟩
    have hxo := hG.ok x (List.mem_of_getElem? hxx)
    refine WC.drawTail 6 mixed (by kernel_rfl) ?_
    refine WH.y (Yl.move rfl) rfl ?_ -- t24
    refine WH.y (Yl.move rfl) rfl ?_ -- t25
    refine WH.y (Yl.move rfl) rfl ?_ -- t26
    refine WH.y (Yl.index un25 sz31 rfl rfl (Reads.s hx) rfl (by omega)) rfl ?_ -- t27
    refine WH.y (Yl.loadV (j := m) (u := x) dvV dvAll rfl (Reads.s hx) rfl hxx) rfl ?_
    refine WH.y (Yl.loadN ag31 rfl (by repeat (first | exact Take1.head | apply Take1.tail)) (by rfl) (by rfl)) rfl ?_ -- t29
    refine WH.nil ?_
    refine WP.callC (f := .tmp 24) (xs := [.tmp 28, .tmp 29]) (cap := []) rfl rfl en32 (by repeat (first | exact TakeL.nil | (apply TakeL.cons; · repeat (first | exact Take1.head | apply Take1.tail)))) (fun w hw => order_any x d w hw.left.here) rfl ?_ -- t30
    rintro ⟨⟩ -
    refine WP.y (Yl.lss rfl rfl) rfl ?_ -- t31
    refine WP.nil ?_
    refine WC.condD rfl (fun g31 => ?_) (fun g31 => ?_)
    · refine WC.region ?_
      refine WL.y (Yl.move rfl) rfl ?_ -- t32
      refine WL.y (Yl.add rfl rfl (IntWalk.i64_in _ (by omega))) rfl ?_ -- t33
      refine WL.y (Yl.assign rfl) rfl ?_ -- t9
      refine WL.nil ?_
      exact ⟨rfl, (m + 1, j), ⟨by dsimp only; omega, hj, fun k y hk hy => by
        dsimp only at hk
        have hxk : x.key < d.key := by rw [ord_key hxo hd, cmpF_lt] at g31; exact g31
        by_cases e : k = m
        · subst e; rw [hxx] at hy; cases hy; exact hxk
        · obtain ⟨l1, e1⟩ := List.getElem?_eq_some_iff.1 hy
          obtain ⟨l2, e2⟩ := List.getElem?_eq_some_iff.1 hxx
          have := List.pairwise_iff_getElem.1 hG.up k m l1 l2 (by omega)
          rw [e1, e2] at this
          omega, hhi⟩, by dsimp only; omega, (by repeat (first | exact Sub.nil | refine Sub.cons rfl ?_)), _, (by repeat (first | exact TakeL.nil | (apply TakeL.cons; · repeat (first | exact Take1.head | apply Take1.tail))))⟩
    · refine WC.region ?_
      refine WL.y (Yl.move rfl) rfl ?_ -- t34
      refine WL.y (Yl.assign rfl) rfl ?_ -- t10
      refine WL.nil ?_
      exact ⟨rfl, (i, m), ⟨hmi, by dsimp only; omega, hlo, fun k y hk hy => by
        dsimp only at hk
        have hxk : d.key ≤ x.key := by rw [ord_key hxo hd, cmpF_lt] at g31; omega
        by_cases e : k = m
        · subst e; rw [hxx] at hy; cases hy; exact hxk
        · obtain ⟨l1, e1⟩ := List.getElem?_eq_some_iff.1 hy
          obtain ⟨l2, e2⟩ := List.getElem?_eq_some_iff.1 hxx
          have := List.pairwise_iff_getElem.1 hG.up m k l2 l1 (by omega)
          rw [e1, e2] at this
          omega⟩, by dsimp only; omega, (by repeat (first | exact Sub.nil | refine Sub.cons rfl ?_)), _, (by repeat (first | exact TakeL.nil | (apply TakeL.cons; · repeat (first | exact Take1.head | apply Take1.tail))))⟩
  · refine WC.exit ?_
    refine WC.seq ?_
    have hij2 : i = j := by omega
    subst hij2
    have hp := pos_of hG.up hj hlo hhi
    have hin := in_pos hG.up hG.ok hd
    rw [← hp] at hin
    refine WC.drawAny (Hs := [blkR b4 31 d.cells]) mixed (by kernel_rfl) ⟨_, (by repeat (first | exact TakeL.nil | (apply TakeL.cons; · repeat (first | exact Take1.head | apply Take1.tail))))⟩ ?_
    refine WD.take 0 rfl (by kernel_rfl) (by kernel_rfl) (by kernel_rfl) rfl rfl (Yl.move rfl) rfl ?_ -- t35
    refine WD.take 1 rfl (by kernel_rfl) (by kernel_rfl) (by kernel_rfl) rfl rfl (Yl.move rfl) rfl ?_ -- t36
    refine WD.take 2 rfl (by kernel_rfl) (by kernel_rfl) (by kernel_rfl) rfl rfl (Yl.move rfl) rfl ?_ -- t37
    refine WD.take 3 rfl (by kernel_rfl) (by kernel_rfl) (by kernel_rfl) rfl rfl (Yl.lss rfl rfl) rfl ?_ -- t38
    refine WD.take 4 rfl (by kernel_rfl) (by kernel_rfl) (by kernel_rfl) rfl rfl (Yl.move rfl) rfl ?_ -- t39
    refine WD.both (t := 39) rfl (fun g39 => ?_) (fun g39 => ?_)
    · refine WD.takeOn 5 rfl (by kernel_rfl) (by kernel_rfl) (by kernel_rfl) rfl rfl rfl rfl (Yl.move rfl) rfl ?_ -- t40
      refine WD.takeOn 6 rfl (by kernel_rfl) (by kernel_rfl) (by kernel_rfl) rfl rfl rfl rfl (Yl.move rfl) rfl ?_ -- t41
      refine WD.takeOn 7 rfl (by kernel_rfl) (by kernel_rfl) (by kernel_rfl) rfl rfl rfl rfl (Yl.move rfl) rfl ?_ -- t42
      have hlt : i < xs.length := by have := of_decide_eq_true g39; omega
      obtain ⟨x, hxx⟩ : ∃ x, xs[i]? = some x := ⟨_, List.getElem?_eq_getElem hlt⟩
      refine WD.takeOn 8 rfl (by kernel_rfl) (by kernel_rfl) (by kernel_rfl) rfl rfl rfl rfl (Yl.index un25 sz31 rfl rfl (Reads.s hx) rfl (by omega)) rfl ?_ -- t43
      refine WD.takeOn 9 rfl (by kernel_rfl) (by kernel_rfl) (by kernel_rfl) rfl rfl rfl rfl (Yl.loadV (j := i) (u := x) dvV dvAll rfl (Reads.s hx) rfl hxx) rfl ?_
      refine WD.takeOn 10 rfl (by kernel_rfl) (by kernel_rfl) (by kernel_rfl) rfl rfl rfl rfl (Yl.loadN ag31 rfl (by repeat (first | exact Take1.head | apply Take1.tail)) (by rfl) (by rfl)) rfl ?_ -- t45
      refine WD.one 11 (by kernel_rfl) ?_
      refine WO.callC (f := .tmp 40) (xs := [.tmp 44, .tmp 45]) (cap := []) rfl (.on rfl rfl) rfl rfl en32 (by repeat (first | exact TakeL.nil | (apply TakeL.cons; · repeat (first | exact Take1.head | apply Take1.tail)))) (fun w hw => order_any x d w hw.left.here) rfl (fun _ => ⟨_, (by repeat (first | exact TakeL.nil | (apply TakeL.cons; · repeat (first | exact Take1.head | apply Take1.tail))))⟩) ?_ -- t46
      rintro ⟨⟩ -
      refine WD.takeOn 12 rfl (by kernel_rfl) (by kernel_rfl) (by kernel_rfl) rfl rfl rfl rfl (Yl.eql rfl rfl) rfl ?_ -- t47
      refine WD.take 13 rfl (by kernel_rfl) (by kernel_rfl) (by kernel_rfl) rfl rfl (Yl.pickT rfl rfl) rfl ?_ -- t48
      refine WD.take 14 rfl (by kernel_rfl) (by kernel_rfl) (by kernel_rfl) rfl rfl (Yl.assign rfl) rfl ?_ -- t6
      refine WD.take 15 rfl (by kernel_rfl) (by kernel_rfl) (by kernel_rfl) rfl rfl (Yl.assign rfl) rfl ?_ -- t7
      refine WD.done (by kernel_rfl) ?_
      refine WC.ret ?_
      repeat (first | (with_reducible refine peelT ?_) | (with_reducible refine peelB ?_) | (with_reducible refine peelTX ?_) | (with_reducible refine peelBX ?_) | (with_reducible refine peelBN ?_) | (with_reducible refine peelBO rfl ?_))
      rw [hxx] at hin
      exact ret2 (.inr rfl) Try.results31 rfl rfl fun w' h => ⟨(), trivial, by rw [hin, ← hp], h.sub (by repeat (first | exact TakeL.nil | (apply TakeL.cons; · repeat (first | exact Take1.head | apply Take1.tail))))⟩
    · refine WD.takeOff 5 rfl (by kernel_rfl) (by kernel_rfl) (by kernel_rfl) rfl rfl rfl rfl rfl rfl ?_ -- t40
      refine WD.takeOff 6 rfl (by kernel_rfl) (by kernel_rfl) (by kernel_rfl) rfl rfl rfl rfl rfl rfl ?_ -- t41
      refine WD.takeOff 7 rfl (by kernel_rfl) (by kernel_rfl) (by kernel_rfl) rfl rfl rfl rfl rfl rfl ?_ -- t42
      refine WD.takeOff 8 rfl (by kernel_rfl) (by kernel_rfl) (by kernel_rfl) rfl rfl rfl rfl rfl rfl ?_ -- t43
      refine WD.takeOff 9 rfl (by kernel_rfl) (by kernel_rfl) (by kernel_rfl) rfl rfl rfl rfl rfl rfl ?_ -- t44
      refine WD.takeOff 10 rfl (by kernel_rfl) (by kernel_rfl) (by kernel_rfl) rfl rfl rfl rfl rfl rfl ?_ -- t45
      refine WD.one 11 (by kernel_rfl) ?_
      refine WO.off rfl rfl rfl rfl rfl rfl rfl ?_ -- t46
      refine WD.takeOff 12 rfl (by kernel_rfl) (by kernel_rfl) (by kernel_rfl) rfl rfl rfl rfl rfl rfl ?_ -- t47
      refine WD.take 13 rfl (by kernel_rfl) (by kernel_rfl) (by kernel_rfl) rfl rfl (Yl.pickF rfl rfl) rfl ?_ -- t48
      refine WD.take 14 rfl (by kernel_rfl) (by kernel_rfl) (by kernel_rfl) rfl rfl (Yl.assign rfl) rfl ?_ -- t6
      refine WD.take 15 rfl (by kernel_rfl) (by kernel_rfl) (by kernel_rfl) rfl rfl (Yl.assign rfl) rfl ?_ -- t7
      refine WD.done (by kernel_rfl) ?_
      refine WC.ret ?_
      repeat (first | (with_reducible refine peelT ?_) | (with_reducible refine peelB ?_) | (with_reducible refine peelTX ?_) | (with_reducible refine peelBX ?_) | (with_reducible refine peelBN ?_) | (with_reducible refine peelBO rfl ?_))
      have hnn : xs[i]? = none := List.getElem?_eq_none_iff.2 (by have := of_decide_eq_false g39; omega)
      rw [hnn] at hin
      exact ret2 (.inr rfl) Try.results31 rfl rfl fun w' h => ⟨(), trivial, by rw [hin, ← hp], h.sub (by repeat (first | exact TakeL.nil | (apply TakeL.cons; · repeat (first | exact Take1.head | apply Take1.tail))))⟩
end Go.Proofs.Ytfdnnlcfolgegaa

namespace Go.Proofs.Ytfdnnlcfolgegaa
open Go Go.RowKit

theorem dv_len (xs : List Dv) : (vcs Dv.val xs).length = xs.length * 2 := dvV.size dvAll
theorem dv_take (xs : List Dv) (i : Nat) : (vcs Dv.val xs).take (i * 2) = vcs Dv.val (xs.take i) := dvV.take i dvAll
theorem dv_drop (xs : List Dv) (i : Nat) : (vcs Dv.val xs).drop (i * 2) = vcs Dv.val (xs.drop i) := dvV.drop i dvAll
theorem dv_cat {xs ys : List Dv} {x : Dv} : vcs Dv.val xs ++ x.cells ++ vcs Dv.val ys = vcs Dv.val (xs ++ x :: ys) := by
  rw [vcs_app, vcs_cons, List.append_assoc]
  rfl
theorem rdDv {bv : Nat} {x : Dv} : RdOf (blkR bv 31 x.cells) (.slice (some ⟨bv, 0, none⟩) 1 1) 2 1 x.cells := RdOf.blk (Nat.le_refl _) (by unfold maxLen; omega) (by simp [Dv.cells]) rfl
theorem ext_overlaps {w : World} {args : Array Value} {v : Value} (h : (Extern.SlicesOverlaps.overlaps #[25, 25] #[4] args).run Try.prog w = .ok v w) : (callFunc 55 args).run Try.prog w = .ok (.value v) w := by
  rw [run_callFunc_extern (e := Extern.SlicesOverlaps.overlaps #[25, 25] #[4]) Try.func55 (by kernel_rfl) (by kernel_rfl) (by kernel_rfl) (by kernel_rfl), h]
  rfl

set_option maxRecDepth 100000 in
theorem insD_any (ao : Option Addr) (cap : Nat) (xs : List Dv) (x : Dv) (i bv : Nat) (hl : xs.length ≤ 1099511627776) (hi : i ≤ xs.length) (w : World)
    (hw : OK w (fpL [ownR (.slice ao xs.length cap) 31 2 xs.length (vcs Dv.val xs), blkR bv 31 x.cells]) [ownR (.slice ao xs.length cap) 31 2 xs.length (vcs Dv.val xs), blkR bv 31 x.cells] w) :
    Fn Try.prog 33 [.slice ao xs.length cap, .int .i64 (i : Int), .slice (some ⟨bv, 0, none⟩) 1 1] [ownR (.slice ao xs.length cap) 31 2 xs.length (vcs Dv.val xs), blkR bv 31 x.cells] w (fun _ : Option Addr × Nat => True) (fun y => .slice y.1 (xs.length + 1) y.2)
      (fun y => [ownR (.slice y.1 (xs.length + 1) y.2) 31 2 (xs.length + 1) (vcs Dv.val (xs.take i ++ x :: xs.drop i))]) := by
  have hcap : xs.length ≤ cap := Sown.le (hw.get .head)
  have hml : cap ≤ maxLen := by obtain ⟨_, _, he, _, h⟩ := (hw.get .head : Sown _ _ _ _ _ _).rd.form; cases he; exact h
  have hlen := dv_len xs
  refine enterF Try.func33 rfl Try.ntmps33 rfl hw ?_
  refine WC.seq ?_
  refine WC.region ?_
  refine WL.y (Yl.assign rfl) rfl ?_ -- t6
  refine WL.nil ?_
  refine WC.seq ?_
  refine WC.region ?_
  refine WL.y (Yl.move rfl) rfl ?_ -- t10
  refine WL.y (Yl.move rfl) rfl ?_ -- t11
  refine WL.y (Yl.slice un25 sz31 rfl ⟨_, rfl⟩ rfl (by omega) (by omega)) rfl ?_ -- t12
  refine WL.nil ?_
  refine WC.seq ?_
  refine WC.region ?_
  refine WL.y (Yl.move rfl) rfl ?_ -- t13
  refine WL.y (Yl.len un25 rfl) rfl ?_ -- t14
  refine WL.y (Yl.assign rfl) rfl ?_ -- t7
  refine WL.nil ?_
  refine WC.seq ?_
  refine WC.seq ?_
  refine WC.region ?_
  refine WL.y (Yl.move rfl) rfl ?_ -- t15
  refine WL.y (Yl.eql rfl rfl) rfl ?_ -- t16
  refine WL.nil ?_
  refine WC.condF rfl (by first | rfl | (simp; done) | (simp; omega)) ?_
  refine WC.skip ?_
  refine WC.seq ?_
  refine WC.region ?_
  refine WL.y (Yl.move rfl) rfl ?_ -- t18
  refine WL.y (Yl.len un25 rfl) rfl ?_ -- t19
  refine WL.y (Yl.assign rfl) rfl ?_ -- t8
  refine WL.nil ?_
  refine WC.seq ?_
  refine WC.seq ?_
  refine WC.region ?_
  refine WL.y (Yl.move rfl) rfl ?_ -- t20
  refine WL.y (Yl.move rfl) rfl ?_ -- t21
  refine WL.y (Yl.eql rfl rfl) rfl ?_ -- t22
  refine WL.nil ?_
  refine WC.condD rfl (fun g22 => ?_) (fun g22 => ?_)
  · refine WC.seq ?_
    refine WC.region ?_
    refine WL.y (Yl.move rfl) rfl ?_ -- t23
    refine WL.y (Yl.move rfl) rfl ?_ -- t24
    refine WL.to (To.append sl25 rfl rfl (by repeat (first | exact Take1.head | apply Take1.tail)) (Reads.of rdDv (by repeat (first | exact Take1.head | apply Take1.tail))) (Dv.ones x) rfl (show vcs Dv.val xs ++ x.cells = vcs Dv.val (xs.take i ++ x :: xs.drop i) from by
      obtain rfl : i = xs.length := by omega
      rw [List.take_length, List.drop_length, ← dv_cat]; simp [vcs, flat]) (by unfold maxLen; omega) (by omega)) rfl ?_ -- t25
    rintro ⟨⟨ao25, c25⟩, hc25⟩
    dsimp only at hc25 ⊢
    refine WL.y (Yl.assign rfl) rfl ?_ -- t6
    refine WL.nil ?_
    refine WC.ret ?_
    repeat (first | (with_reducible refine peelT ?_) | (with_reducible refine peelB ?_) | (with_reducible refine peelTX ?_) | (with_reducible refine peelBX ?_) | (with_reducible refine peelBN ?_) | (with_reducible refine peelBO rfl ?_))
    exact ret1 (.inr rfl) Try.results33 rfl fun w' h => ⟨(ao25, c25), trivial, rfl, h.sub (by repeat (first | exact TakeL.nil | (apply TakeL.cons; · repeat (first | exact Take1.head | apply Take1.tail))))⟩
  · refine WC.skip ?_
    refine WC.seq ?_
    refine WC.seq ?_
    refine WC.region ?_
    refine WL.y (Yl.move rfl) rfl ?_ -- t26
    refine WL.y (Yl.move rfl) rfl ?_ -- t27
    refine WL.y (Yl.add rfl rfl (IntWalk.i64_in _ (by omega))) rfl ?_ -- t28
    refine WL.y (Yl.move rfl) rfl ?_ -- t29
    refine WL.y (Yl.cap un25 rfl) rfl ?_ -- t30
    refine WL.y (Yl.gtr rfl rfl) rfl ?_ -- t31
    refine WL.nil ?_
    refine WC.condD rfl (fun g31 => ?_) (fun g31 => ?_)
    · refine WC.seq ?_
      refine WC.region ?_
      refine WL.y (Yl.move rfl) rfl ?_ -- t32
      refine WL.y (Yl.move rfl) rfl ?_ -- t33
      refine WL.y (Yl.slice un25 sz31 rfl rfl ⟨_, rfl⟩ (by omega) (by omega)) rfl ?_ -- t34
      refine WL.say (t := 34) (v' := .slice ao i cap) rfl (by exact sub0) ?_
      refine WL.y (Yl.move rfl) rfl ?_ -- t35
      refine WL.y (Yl.move rfl) rfl ?_ -- t36
      refine WL.y (Yl.add rfl rfl (IntWalk.i64_in _ (by omega))) rfl ?_ -- t37
      refine WL.y (Yl.move rfl) rfl ?_ -- t38
      refine WL.y (Yl.sub rfl rfl (IntWalk.i64_in _ (by omega))) rfl ?_ -- t39
      refine WL.say (t := 39) (v' := .int .i64 ((xs.length + 1 - i : Nat) : Int)) rfl (by congr 1; omega) ?_
      obtain ⟨Z, hZ⟩ : ∃ Z, Z = (Builtin.zeroCells (#[.int .u8 0, .int .u8 0] : Array Value) (xs.length + 1 - i)).toList := ⟨_, rfl⟩
      have hZl : Z.length = (xs.length + 1 - i) * 2 := by rw [hZ, Array.length_toList, size_zeroCells]; rfl
      refine WL.to (To.appendZN (i := i) (m := xs.length + 1 - i) (N := xs.length + 1) (zs := (vcs Dv.val xs).take (i * 2) ++ Z) sl25 un3 rfl rfl (by repeat (first | exact Take1.head | apply Take1.tail)) hi (by omega) (by omega) (by omega) (by omega) (by rw [hZ]; rfl) (by unfold maxLen; omega) (by omega)) rfl ?_
      rintro ⟨⟨b40, c40⟩, hc40⟩
      dsimp only at hc40 ⊢
      refine WL.y (Yl.assign rfl) rfl ?_ -- t9
      refine WL.nil ?_
      refine WC.seq ?_
      refine WC.region ?_
      refine WL.y (Yl.move rfl) rfl ?_ -- t41
      refine WL.y (Yl.move rfl) rfl ?_ -- t42
      refine WL.y (Yl.slice un25 sz31 rfl ⟨_, rfl⟩ rfl (by omega) (by omega)) rfl ?_ -- t43
      refine WL.y (Yl.move rfl) rfl ?_ -- t44
      refine WL.to (To.copyOwn (l := i) (k := 1) (m := 1) un25 sz31 rfl rfl (by repeat (first | exact Take1.head | apply Take1.tail)) (Reads.of rdDv (by repeat (first | exact Take1.head | apply Take1.tail))) (fun u hu => Dv.ones x u (List.mem_of_mem_take hu)) (by omega) (Nat.min_eq_left (by omega)) rfl) rfl ?_
      rintro ⟨⟩
      refine WL.nil ?_
      refine WC.seq ?_
      refine WC.drawTail 8 mixed (by kernel_rfl) ?_
      refine WH.y (Yl.move rfl) rfl ?_ -- t46
      refine WH.y (Yl.move rfl) rfl ?_ -- t47
      refine WH.y (Yl.move rfl) rfl ?_ -- t48
      refine WH.y (Yl.add rfl rfl (IntWalk.i64_in _ (by omega))) rfl ?_ -- t49
      refine WH.say (t := 49) (v' := .int .i64 ((i + 1 : Nat) : Int)) rfl (by rfl) ?_
      refine WH.y (Yl.slice un25 sz31 rfl ⟨_, rfl⟩ rfl (by omega) (by omega)) rfl ?_ -- t50
      refine WH.y (Yl.move rfl) rfl ?_ -- t51
      refine WH.y (Yl.move rfl) rfl ?_ -- t52
      refine WH.y (Yl.slice un25 sz31 rfl ⟨_, rfl⟩ rfl (by omega) (by omega)) rfl ?_ -- t53
      refine WH.nil ?_
      refine WP.to (To.copyOwn (l := i + 1) (k := xs.length - i) (m := xs.length - i) (news := (vcs Dv.val xs).drop (i * 2)) (cs' := vcs Dv.val (xs.take i ++ x :: xs.drop i)) un25 sz31 rfl rfl (by repeat (first | exact Take1.head | apply Take1.tail)) (Reads.of (RdOf.sub RdOf.own hi (Nat.le_refl _) (List.take_of_length_le (by rw [List.length_drop, hlen, Nat.sub_mul]; exact Nat.le_refl _))) (by repeat (first | exact Take1.head | apply Take1.tail))) (fun u hu => dvV.ones xs u (List.mem_of_mem_drop (List.mem_of_mem_take hu))) (by omega) (Nat.min_eq_left (by omega))
          (by rw [growL (n := xs.length) hlen hZl rfl hi (by decide), dv_take, dv_drop]; exact dv_cat)) rfl ?_
      rintro ⟨⟩
      refine WP.nil ?_
      refine WC.seq ?_
      refine WC.region ?_
      refine WL.y (Yl.move rfl) rfl ?_ -- t55
      refine WL.y (Yl.assign rfl) rfl ?_ -- t6
      refine WL.nil ?_
      refine WC.ret ?_
      repeat (first | (with_reducible refine peelT ?_) | (with_reducible refine peelB ?_) | (with_reducible refine peelTX ?_) | (with_reducible refine peelBX ?_) | (with_reducible refine peelBN ?_) | (with_reducible refine peelBO rfl ?_))
      exact ret1 (.inr rfl) Try.results33 rfl fun w' h => ⟨(some ⟨b40, 0, none⟩, c40), trivial, rfl, h.sub (by repeat (first | exact TakeL.nil | (apply TakeL.cons; · repeat (first | exact Take1.head | apply Take1.tail))))⟩
    · refine WC.skip ?_
      refine WC.seq ?_
      refine WC.region ?_
      refine WL.y (Yl.move rfl) rfl ?_ -- t56
      refine WL.y (Yl.move rfl) rfl ?_ -- t57
      refine WL.y (Yl.move rfl) rfl ?_ -- t58
      refine WL.y (Yl.add rfl rfl (IntWalk.i64_in _ (by omega))) rfl ?_ -- t59
      refine WL.y (Yl.slice un25 sz31 rfl rfl ⟨_, rfl⟩ (by omega) (by omega)) rfl ?_ -- t60
      refine WL.viewX (fun w h => h.extend (m := 1) (by repeat (first | exact Take1.head | apply Take1.tail)) (by omega)) ?_
      intro ys hys
      refine WL.say (t := 60) (v' := .slice ao (xs.length + 1) cap) rfl (by exact sub0) ?_
      refine WL.y (Yl.assign rfl) rfl ?_ -- t0
      refine WL.nil ?_
      refine WC.seq ?_
      refine WC.seq ?_
      refine WC.region ?_
      refine WL.y (Yl.move rfl) rfl ?_ -- t61
      refine WL.y (Yl.move rfl) rfl ?_ -- t62
      refine WL.y (Yl.move rfl) rfl ?_ -- t63
      refine WL.y (Yl.move rfl) rfl ?_ -- t64
      refine WL.y (Yl.add rfl rfl (IntWalk.i64_in _ (by omega))) rfl ?_ -- t65
      refine WL.y (Yl.slice un25 sz31 rfl ⟨_, rfl⟩ rfl (by omega) (by omega)) rfl ?_ -- t66
      refine WL.y (Yl.callExt (xs := [.tmp 61, .tmp 66]) rfl rfl (fun w hw => ext_overlaps (hw.overlaps un25 sz31 (by repeat (first | exact TakeL.nil | (apply TakeL.cons; · repeat (first | exact Take1.head | apply Take1.tail)))) (by omega) (by decide)))) rfl ?_
      refine WL.y (Yl.not rfl) rfl ?_ -- t68
      refine WL.nil ?_
      refine WC.condT rfl (by first | rfl | (simp; done) | (simp; omega)) ?_
      refine WC.seq ?_
      refine WC.drawTail 8 mixed (by kernel_rfl) ?_
      refine WH.y (Yl.move rfl) rfl ?_ -- t69
      refine WH.y (Yl.move rfl) rfl ?_ -- t70
      refine WH.y (Yl.move rfl) rfl ?_ -- t71
      refine WH.y (Yl.add rfl rfl (IntWalk.i64_in _ (by omega))) rfl ?_ -- t72
      refine WH.say (t := 72) (v' := .int .i64 ((i + 1 : Nat) : Int)) rfl (by rfl) ?_
      refine WH.y (Yl.slice un25 sz31 rfl ⟨_, rfl⟩ rfl (by omega) (by omega)) rfl ?_ -- t73
      refine WH.y (Yl.move rfl) rfl ?_ -- t74
      refine WH.y (Yl.move rfl) rfl ?_ -- t75
      refine WH.y (Yl.slice un25 sz31 rfl ⟨_, rfl⟩ rfl (by omega) (by omega)) rfl ?_ -- t76
      refine WH.nil ?_
      refine WP.to (To.copyOwn (l := i + 1) (k := xs.length - i) (m := xs.length + 1 - i) (news := (vcs Dv.val xs ++ ys).drop (i * 2)) un25 sz31 rfl rfl (by repeat (first | exact Take1.head | apply Take1.tail)) (Reads.of (RdOf.sub RdOf.own (by omega) (Nat.le_refl _) (List.take_of_length_le (by rw [List.length_drop, List.length_append, hlen, hys]; omega))) (by repeat (first | exact Take1.head | apply Take1.tail))) (fun u hu => by
          rw [List.drop_append_of_le_length (by omega), List.take_left' (by rw [List.length_drop, hlen, Nat.sub_mul])] at hu
          exact dvV.ones xs u (List.mem_of_mem_drop hu)) (by omega) ((Nat.min_eq_right (by omega)).trans (by omega)) rfl) rfl ?_
      rintro ⟨⟩
      refine WP.nil ?_
      refine WC.seq ?_
      refine WC.region ?_
      refine WL.y (Yl.move rfl) rfl ?_ -- t78
      refine WL.y (Yl.move rfl) rfl ?_ -- t79
      refine WL.y (Yl.slice un25 sz31 rfl ⟨_, rfl⟩ rfl (by omega) (by omega)) rfl ?_ -- t80
      refine WL.y (Yl.move rfl) rfl ?_ -- t81
      refine WL.to (To.copyOwn (l := i) (k := 1) (m := 1) (cs' := vcs Dv.val (xs.take i ++ x :: xs.drop i)) un25 sz31 rfl rfl (by repeat (first | exact Take1.head | apply Take1.tail)) (Reads.of rdDv (by repeat (first | exact Take1.head | apply Take1.tail))) (fun u hu => Dv.ones x u (List.mem_of_mem_take hu)) (by omega) (Nat.min_eq_left (by omega))
          (by rw [show (i + 1) = 1 + i from Nat.add_comm _ _] at *; rw [Nat.add_comm 1 i]; exact (shiftL (x := x.cells) (n := xs.length) hlen hys rfl hi (by decide)).trans (by rw [dv_take, dv_drop]; exact dv_cat))) rfl ?_
      rintro ⟨⟩
      refine WL.nil ?_
      refine WC.seq ?_
      refine WC.region ?_
      refine WL.y (Yl.move rfl) rfl ?_ -- t83
      refine WL.y (Yl.assign rfl) rfl ?_ -- t6
      refine WL.nil ?_
      refine WC.ret ?_
      repeat (first | (with_reducible refine peelT ?_) | (with_reducible refine peelB ?_) | (with_reducible refine peelTX ?_) | (with_reducible refine peelBX ?_) | (with_reducible refine peelBN ?_) | (with_reducible refine peelBO rfl ?_))
      exact ret1 (.inr rfl) Try.results33 rfl fun w' h => ⟨(ao, cap), trivial, rfl, h.sub (by repeat (first | exact TakeL.nil | (apply TakeL.cons; · repeat (first | exact Take1.head | apply Take1.tail))))⟩
set_option maxRecDepth 100000 in
theorem delD_any (ao : Option Addr) (cap : Nat) (xs : List Dv) (i : Nat) (hl : xs.length ≤ 1099511627776) (hi : i < xs.length) (w : World)
    (hw : OK w (fpL [ownR (.slice ao xs.length cap) 31 2 xs.length (vcs Dv.val xs)]) [ownR (.slice ao xs.length cap) 31 2 xs.length (vcs Dv.val xs)] w) :
    Fn Try.prog 35 [.slice ao xs.length cap, .int .i64 (i : Int), .int .i64 ((i + 1 : Nat) : Int)] [ownR (.slice ao xs.length cap) 31 2 xs.length (vcs Dv.val xs)] w (fun _ : Unit => True) (fun _ => .slice ao (xs.length - 1) cap)
      (fun _ => [ownR (.slice ao (xs.length - 1) cap) 31 2 (xs.length - 1) (vcs Dv.val (xs.take i ++ xs.drop (i + 1)))]) := by
  have hcap : xs.length ≤ cap := Sown.le (hw.get .head)
  have hlen := dv_len xs
  refine enterF Try.func35 rfl Try.ntmps35 rfl hw ?_
  refine WC.seq ?_
  refine WC.region ?_
  refine WL.y (Yl.assign rfl) rfl ?_ -- t6
  refine WL.nil ?_
  refine WC.seq ?_
  refine WC.region ?_
  refine WL.y (Yl.move rfl) rfl ?_ -- t8
  refine WL.y (Yl.move rfl) rfl ?_ -- t9
  refine WL.y (Yl.move rfl) rfl ?_ -- t10
  refine WL.y (Yl.move rfl) rfl ?_ -- t11
  refine WL.y (Yl.len un25 rfl) rfl ?_ -- t12
  refine WL.y (Yl.slice3L (l := i) (h := i + 1) (m := xs.length) un25 sz31 rfl rfl rfl rfl (by omega) (by omega) (by omega)) rfl ?_
  refine WL.nil ?_
  refine WC.seq ?_
  refine WC.seq ?_
  refine WC.region ?_
  refine WL.y (Yl.move rfl) rfl ?_ -- t14
  refine WL.y (Yl.move rfl) rfl ?_ -- t15
  refine WL.y (Yl.eql rfl rfl) rfl ?_ -- t16
  refine WL.nil ?_
  refine WC.condF rfl (by first | rfl | (simp; done) | (simp; omega)) ?_
  refine WC.skip ?_
  refine WC.seq ?_
  refine WC.region ?_
  refine WL.y (Yl.move rfl) rfl ?_ -- t18
  refine WL.y (Yl.len un25 rfl) rfl ?_ -- t19
  refine WL.y (Yl.assign rfl) rfl ?_ -- t7
  refine WL.nil ?_
  refine WC.seq ?_
  refine WC.drawTail 6 mixed (by kernel_rfl) ?_
  refine WH.y (Yl.move rfl) rfl ?_ -- t20
  refine WH.y (Yl.move rfl) rfl ?_ -- t21
  refine WH.y (Yl.slice un25 sz31 rfl rfl ⟨_, rfl⟩ (by omega) (by omega)) rfl ?_ -- t22
  refine WH.say (t := 22) (v' := .slice ao i cap) rfl (by exact sub0) ?_
  refine WH.y (Yl.move rfl) rfl ?_ -- t23
  refine WH.y (Yl.move rfl) rfl ?_ -- t24
  refine WH.y (Yl.slice un25 sz31 rfl ⟨_, rfl⟩ rfl (by omega) (by omega)) rfl ?_ -- t25
  refine WH.nil ?_
  refine WP.to (To.appendIn (i := i) (m := xs.length - (i + 1)) (N := xs.length - 1) (news := (vcs Dv.val xs).drop ((i + 1) * 2)) sl25 rfl rfl (by repeat (first | exact Take1.head | apply Take1.tail)) (Reads.of (RdOf.sub RdOf.own (by omega) (Nat.le_refl _) (List.take_of_length_le (by rw [List.length_drop, hlen, Nat.sub_mul]; exact Nat.le_refl _))) (by repeat (first | exact Take1.head | apply Take1.tail))) (fun u hu => dvV.ones xs u (List.mem_of_mem_drop hu)) (by omega) (by omega) rfl) rfl ?_
  rintro ⟨⟩
  refine WP.y (Yl.assign rfl) rfl ?_ -- t0
  refine WP.nil ?_
  refine WC.seq ?_
  refine WC.region ?_
  refine WL.y (Yl.move rfl) rfl ?_ -- t27
  refine WL.y (Yl.move rfl) rfl ?_ -- t28
  refine WL.y (Yl.len un25 rfl) rfl ?_ -- t29
  refine WL.y (Yl.move rfl) rfl ?_ -- t30
  refine WL.y (Yl.slice un25 sz31 rfl ⟨_, rfl⟩ ⟨_, rfl⟩ (by omega) (by omega)) rfl ?_ -- t31
  refine WL.eff (Eff.clear sl25 (n := xs.length) (i := xs.length - 1) (cs' := vcs Dv.val (xs.take i ++ xs.drop (i + 1))) (by intro u hu; simp [Value.cells] at hu; rcases hu with rfl | rfl <;> rfl) rfl (by repeat (first | exact Take1.head | apply Take1.tail)) (by omega) (by
    have := closeL (cs := vcs Dv.val xs) (s := 2) (n := xs.length) (i := i) (j := i + 1) hlen (by omega) (by omega)
    rw [show i + (xs.length - (i + 1)) = xs.length - 1 by omega] at this ⊢
    rw [this, dv_take, dv_drop, vcs_app])) ?_
  refine WL.nil ?_
  refine WC.seq ?_
  refine WC.region ?_
  refine WL.y (Yl.move rfl) rfl ?_ -- t32
  refine WL.y (Yl.assign rfl) rfl ?_ -- t6
  refine WL.nil ?_
  refine WC.ret ?_
  repeat (first | (with_reducible refine peelT ?_) | (with_reducible refine peelB ?_) | (with_reducible refine peelTX ?_) | (with_reducible refine peelBX ?_) | (with_reducible refine peelBN ?_) | (with_reducible refine peelBO rfl ?_))
  exact ret1 (.inr rfl) Try.results35 rfl fun w' h => ⟨(), trivial, rfl, by rw [sub0] at h; exact h.sub (by repeat (first | exact TakeL.nil | (apply TakeL.cons; · repeat (first | exact Take1.head | apply Take1.tail))))⟩
end Go.Proofs.Ytfdnnlcfolgegaa
