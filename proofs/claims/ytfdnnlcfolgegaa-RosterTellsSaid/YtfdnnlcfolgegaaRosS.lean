/- Rosters: what the document tells: members that came, whether one follows, the digest: the walks. -/
import Derived.Test.YtfdnnlcfolgegaaRosM
import Derived.Test.YtfdnnlcfolgegaaShaQ32
import Derived.Test.YtfdnnlcfolgegaaShaV
import Derived.Test.YtfdnnlcfolgegaaLibR
namespace Go.Proofs.Ytfdnnlcfolgegaa
open Go Go.RowKit

theorem rhas_any (r : Rs) (xs : List Dv) (d : Dv) (hg : r.g.length = 16) (hl : xs.length ≤ 1099511627776) (ho : DOk xs) (hd : d.ok) (w : World) (hx : RdS w (fpL []) r.v 2 xs.length (vcs Dv.val xs)) (hw : OK w (fpL []) [] w) :
    Fn Try.prog 24 [.agg r.cells.toArray, d.val] [] w (fun _ : Unit => True) (fun _ => .bool (inF xs d)) (fun _ => []) := by
  obtain ⟨ao, cap, hv, hcap, hml⟩ := hx.rd.form
  have a17 := Rs.at17 hg
  rw [hv] at a17 hx
  refine enterF Try.func24 rfl Try.ntmps24 rfl hw ?_
  refine WC.seq ?_
  refine WC.region ?_
  refine WL.to (To.box (cs := r.cells) rfl rfl) rfl ?_ -- t2
  intro b2
  refine WL.to (To.box (cs := d.cells) rfl rfl) rfl ?_ -- t3
  intro b3
  refine WL.y (Yl.assign rfl) rfl ?_ -- t4
  refine WL.nil ?_
  refine WC.seq ?_
  refine WC.seq ?_
  refine WC.region ?_
  refine WL.y (Yl.assign rfl) rfl ?_ -- t5
  refine WL.nil ?_
  refine WC.block ?_
  refine WC.loop (α := Nat) (fun j => [(2, .pointer (some ⟨b2, 0, none⟩)), (3, .pointer (some ⟨b3, 0, none⟩)), (5, .int .i64 (j : Int))]) (fun _ => [blkR b2 27 r.cells, blkR b3 31 d.cells]) (fun j => j ≤ xs.length ∧ ¬ d ∈ xs.take j) (fun j => xs.length - j) 0 ⟨Nat.zero_le _, by simp⟩ ⟨(by repeat (first | exact Sub.nil | refine Sub.cons rfl ?_)), _, (by repeat (first | exact TakeL.nil | (apply TakeL.cons; · repeat (first | exact Take1.head | apply Take1.tail))))⟩ ?_
  rintro j ⟨hj, hno⟩
  refine WC.seq ?_
  refine WC.seq ?_
  refine WC.region ?_
  refine WL.y (Yl.move rfl) rfl ?_ -- t6
  refine WL.y (Yl.field fo27_2 rfl) rfl ?_ -- t7
  refine WL.y (Yl.load on25 rfl (by repeat (first | exact Take1.head | apply Take1.tail)) a17) rfl ?_ -- t8
  refine WL.y (Yl.len un25 rfl) rfl ?_ -- t9
  refine WL.y (Yl.lss rfl rfl) rfl ?_ -- t10
  refine WL.nil ?_
  refine WC.condD rfl (fun g10 => ?_) (fun g10 => ?_)
  · refine WC.skip ?_
    refine WC.seq ?_
    refine WC.block ?_
    refine WC.seq ?_
    obtain ⟨x, hxx⟩ : ∃ x, xs[j]? = some x := ⟨_, List.getElem?_eq_getElem (by omega)⟩
    refine WC.drawRead mixed (by kernel_rfl) ?_
    refine WH.y (Yl.field fo27_2 rfl) rfl ?_ -- t13
    refine WH.y (Yl.load on25 rfl (by repeat (first | exact Take1.head | apply Take1.tail)) a17) rfl ?_ -- t14
    refine WH.y (Yl.move rfl) rfl ?_ -- t15
    refine WH.y (Yl.index un25 sz31 rfl rfl (Reads.s hx) rfl (by omega)) rfl ?_ -- t16
    refine WH.y (Yl.loadV (j := j) (u := x) dvV dvAll rfl (Reads.s hx) rfl hxx) rfl ?_
    refine WH.y (Yl.loadN ag31 rfl (by repeat (first | exact Take1.head | apply Take1.tail)) (by rfl) (by rfl)) rfl ?_ -- t18
    refine WH.y (Yl.eqA (xs := x.cells) (ys := d.cells) flatD rfl rfl (Dv.fits (ho x (List.mem_of_getElem? hxx))) (Dv.fits hd)) rfl ?_
    refine WH.say (t := 19) (v' := .bool (decide (x = d))) rfl (by rw [Dv.eqV]) ?_
    refine WH.nil ?_
    refine WC.condD rfl (fun g19 => ?_) (fun g19 => ?_)
    · refine WC.seq ?_
      refine WC.region ?_
      refine WL.y (Yl.assign rfl) rfl ?_ -- t4
      refine WL.nil ?_
      refine WC.ret ?_
      repeat (first | (with_reducible refine peelT ?_) | (with_reducible refine peelB ?_) | (with_reducible refine peelTX ?_) | (with_reducible refine peelBX ?_) | (with_reducible refine peelBN ?_) | (with_reducible refine peelBO rfl ?_))
      exact ret1 (.inr rfl) Try.results24 rfl fun w' h => ⟨(), trivial, by unfold inF; rw [decide_eq_true (by rw [← g19]; exact List.mem_of_getElem? hxx)], h.sub (by repeat (first | exact TakeL.nil | (apply TakeL.cons; · repeat (first | exact Take1.head | apply Take1.tail))))⟩
    · refine WC.skip ?_
      refine WC.region ?_
      refine WL.y (Yl.move rfl) rfl ?_ -- t11
      refine WL.y (Yl.add rfl rfl (IntWalk.i64_in _ (by omega))) rfl ?_ -- t12
      refine WL.y (Yl.assign rfl) rfl ?_ -- t5
      refine WL.nil ?_
      exact ⟨rfl, j + 1, ⟨by omega, by rw [← take_snoc _ _ _ hxx, List.mem_append, List.mem_singleton]; exact fun e => e.elim hno (fun e => g19 e.symm)⟩, by omega, (by repeat (first | exact Sub.nil | refine Sub.cons rfl ?_)), _, (by repeat (first | exact TakeL.nil | (apply TakeL.cons; · repeat (first | exact Take1.head | apply Take1.tail))))⟩
  · refine WC.exit ?_
    refine WC.seq ?_
    refine WC.region ?_
    refine WL.y (Yl.assign rfl) rfl ?_ -- t4
    refine WL.nil ?_
    refine WC.ret ?_
    repeat (first | (with_reducible refine peelT ?_) | (with_reducible refine peelB ?_) | (with_reducible refine peelTX ?_) | (with_reducible refine peelBX ?_) | (with_reducible refine peelBN ?_) | (with_reducible refine peelBO rfl ?_))
    have hjn : j = xs.length := by omega
    subst hjn
    rw [List.take_length] at hno
    exact ret1 (.inr rfl) Try.results24 rfl fun w' h => ⟨(), trivial, by unfold inF; rw [decide_eq_false hno], h.sub (by repeat (first | exact TakeL.nil | (apply TakeL.cons; · repeat (first | exact Take1.head | apply Take1.tail))))⟩
theorem came_len (ms ns : List Dv) : (cameF ms ns).length ≤ ns.length := List.length_filter_le _ _
theorem came_ok {ms ns : List Dv} (h : DOk ns) : DOk (cameF ms ns) := fun x hx => h x (List.mem_filter.1 hx).1
theorem rcame_any (r q : Rs) (ms ns : List Dv) (hg : r.g.length = 16) (hg2 : q.g.length = 16) (h1 : DOk ms) (h2 : DOk ns) (hl : ms.length ≤ 1099511627776) (hl2 : ns.length ≤ 1099511627776) (w : World)
    (hx : RdS w (fpL []) r.v 2 ms.length (vcs Dv.val ms)) (hy : RdS w (fpL []) q.v 2 ns.length (vcs Dv.val ns)) (hw : OK w (fpL []) [] w) :
    Fn Try.prog 21 [.agg r.cells.toArray, .agg q.cells.toArray] [] w (fun y : Option Addr × Nat => True) (fun y => .slice y.1 (cameF ms ns).length y.2) (fun y => [ownR (.slice y.1 (cameF ms ns).length y.2) 31 2 (cameF ms ns).length (vcs Dv.val (cameF ms ns))]) := by
  obtain ⟨ao, cap, hv, hcap, hml⟩ := hy.rd.form
  have a17 := Rs.at17 hg2
  rw [hv] at a17 hy
  refine enterF Try.func21 rfl Try.ntmps21 rfl hw ?_
  refine WC.seq ?_
  refine WC.region ?_
  refine WL.to (To.box (cs := r.cells) rfl rfl) rfl ?_ -- t2
  intro b2
  refine WL.to (To.box (cs := q.cells) rfl rfl) rfl ?_ -- t3
  intro b3
  refine WL.y (Yl.assign rfl) rfl ?_ -- t4
  refine WL.nil ?_
  refine WC.seq ?_
  refine WC.region ?_
  refine WL.y (Yl.assign rfl) rfl ?_ -- t5
  refine WL.view (fun w h => h.addNil 31 2) ?_
  refine WL.nil ?_
  refine WC.seq ?_
  refine WC.seq ?_
  refine WC.region ?_
  refine WL.y (Yl.assign rfl) rfl ?_ -- t6
  refine WL.nil ?_
  refine WC.block ?_
  refine WC.loop (α := Nat × (Option Addr × Nat)) (fun s => [(2, .pointer (some ⟨b2, 0, none⟩)), (3, .pointer (some ⟨b3, 0, none⟩)), (5, .slice s.2.1 (cameF ms (ns.take s.1)).length s.2.2), (6, .int .i64 (s.1 : Int))]) (fun s => [blkR b2 27 r.cells, blkR b3 27 q.cells, ownR (.slice s.2.1 (cameF ms (ns.take s.1)).length s.2.2) 31 2 (cameF ms (ns.take s.1)).length (vcs Dv.val (cameF ms (ns.take s.1)))]) (fun s => s.1 ≤ ns.length) (fun s => ns.length - s.1) (0, none, 0) (Nat.zero_le _) ⟨(by repeat (first | exact Sub.nil | refine Sub.cons rfl ?_)), _, (by repeat (first | exact TakeL.nil | (apply TakeL.cons; · repeat (first | exact Take1.head | apply Take1.tail))))⟩ ?_
  rintro ⟨j, yo, yc⟩ hj
  dsimp only at hj ⊢
  refine WC.seq ?_
  refine WC.seq ?_
  refine WC.region ?_
  refine WL.y (Yl.move rfl) rfl ?_ -- t7
  refine WL.y (Yl.field fo27_2 rfl) rfl ?_ -- t8
  refine WL.y (Yl.load on25 rfl (by repeat (first | exact Take1.head | apply Take1.tail)) a17) rfl ?_ -- t9
  refine WL.y (Yl.len un25 rfl) rfl ?_ -- t10
  refine WL.y (Yl.lss rfl rfl) rfl ?_ -- t11
  refine WL.nil ?_
  refine WC.condD rfl (fun g11 => ?_) (fun g11 => ?_)
  · refine WC.skip ?_
    refine WC.seq ?_
    refine WC.block ?_
    refine WC.seq ?_
    obtain ⟨d, hdd⟩ : ∃ d, ns[j]? = some d := ⟨_, List.getElem?_eq_getElem (by omega)⟩
    have hdo := h2 d (List.mem_of_getElem? hdd)
    have hstep := came_step (ms := ms) hdd
    have hcl := came_len ms (ns.take j)
    rw [List.length_take] at hcl
    refine WC.drawTail 6 mixed (by kernel_rfl) ?_
    refine WH.y (Yl.loadN ag27 rfl (by repeat (first | exact Take1.head | apply Take1.tail)) (by rw [Rs.len18 hg]; rfl) (show (r.cells.drop 0).take 18 = r.cells by rw [List.drop_zero, List.take_of_length_le (by rw [Rs.len18 hg]; omega)])) rfl ?_ -- t14
    refine WH.y (Yl.field fo27_2 rfl) rfl ?_ -- t15
    refine WH.y (Yl.load on25 rfl (by repeat (first | exact Take1.head | apply Take1.tail)) a17) rfl ?_ -- t16
    refine WH.y (Yl.move rfl) rfl ?_ -- t17
    refine WH.y (Yl.index un25 sz31 rfl rfl (Reads.s hy) rfl (by omega)) rfl ?_ -- t18
    refine WH.y (Yl.loadV (j := j) (u := d) dvV dvAll rfl (Reads.s hy) rfl hdd) rfl ?_
    refine WH.nil ?_
    refine WP.callC (xs := [.tmp 14, .tmp 19]) (cap := []) rfl rfl en24 (by repeat (first | exact TakeL.nil | (apply TakeL.cons; · repeat (first | exact Take1.head | apply Take1.tail)))) (fun w hw => rhas_any r ms d hg hl h1 hdo w (hw.srcS (A := []) hx) hw.left.here) rfl ?_ -- t20 hailer/hailerref23.Has
    rintro ⟨⟩ -
    refine WP.y (Yl.not rfl) rfl ?_ -- t21
    refine WP.nil ?_
    refine WC.cond rfl (fun g21 => ?_) (fun g21 => ?_)
    · refine WC.region ?_
      have hnin : inF ms d = false := by simpa using g21
      rw [hnin] at hstep
      simp only [Bool.false_eq_true, if_false] at hstep
      refine WL.y (Yl.move rfl) rfl ?_ -- t22
      refine WL.y (Yl.field fo27_2 rfl) rfl ?_ -- t23
      refine WL.y (Yl.load on25 rfl (by repeat (first | exact Take1.head | apply Take1.tail)) a17) rfl ?_ -- t24
      refine WL.y (Yl.move rfl) rfl ?_ -- t25
      refine WL.y (Yl.index un25 sz31 rfl rfl (Reads.s hy) rfl (by omega)) rfl ?_ -- t26
      refine WL.y (Yl.loadV (j := j) (u := d) dvV dvAll rfl (Reads.s hy) rfl hdd) rfl ?_
      refine WL.to (To.buildSlice (vs := [d.val]) un25 zs31 rfl rfl (by intro u hu; simp at hu; subst hu; rfl) (by decide) (by decide)) rfl ?_ -- t28
      intro b28
      rw [show flat [d.val] = d.cells by simp [flat, Dv.val, Value.cells]]
      refine WL.to (To.append sl25 rfl rfl (by repeat (first | exact Take1.head | apply Take1.tail)) (Reads.of rdDv (by repeat (first | exact Take1.head | apply Take1.tail))) (Dv.ones _) (show (cameF ms (ns.take j)).length + 1 = (cameF ms (ns.take (j + 1))).length by rw [hstep, List.length_append]; rfl) (show vcs Dv.val (cameF ms (ns.take j)) ++ d.cells = vcs Dv.val (cameF ms (ns.take (j + 1))) by rw [hstep, vcs_app, vcs_one]; simp [Dv.val, Value.cells]) (by rw [hstep, List.length_append]; unfold maxLen; simp; omega) (by rw [hstep, List.length_append]; simp; omega)) rfl ?_ -- t29
      rintro ⟨⟨ao29, c29⟩, hc29⟩
      dsimp only at hc29 ⊢
      refine WL.y (Yl.assign rfl) rfl ?_ -- t5
      refine WL.view (fun w h => h.addNil 31 2) ?_
      refine WL.nil ?_
      refine WC.region ?_
      refine WL.y (Yl.move rfl) rfl ?_ -- t12
      refine WL.y (Yl.add rfl rfl (IntWalk.i64_in _ (by omega))) rfl ?_ -- t13
      refine WL.y (Yl.assign rfl) rfl ?_ -- t6
      refine WL.nil ?_
      exact ⟨rfl, (j + 1, ao29, c29), by dsimp only; omega, by dsimp only; omega, (by repeat (first | exact Sub.nil | refine Sub.cons rfl ?_)), _, (by repeat (first | exact TakeL.nil | (apply TakeL.cons; · repeat (first | exact Take1.head | apply Take1.tail))))⟩
    · refine WC.skip ?_
      refine WC.region ?_
      refine WL.y (Yl.move rfl) rfl ?_ -- t12
      refine WL.y (Yl.add rfl rfl (IntWalk.i64_in _ (by omega))) rfl ?_ -- t13
      refine WL.y (Yl.assign rfl) rfl ?_ -- t6
      refine WL.nil ?_
      have hin : inF ms d = true := by simpa using g21
      rw [hin] at hstep
      simp only [if_true] at hstep
      refine ⟨rfl, (j + 1, yo, yc), by dsimp only; omega, by dsimp only; omega, ?_⟩
      dsimp only
      rw [hstep]
      exact ⟨(by repeat (first | exact Sub.nil | refine Sub.cons rfl ?_)), _, (by repeat (first | exact TakeL.nil | (apply TakeL.cons; · repeat (first | exact Take1.head | apply Take1.tail))))⟩
  · refine WC.exit ?_
    refine WC.seq ?_
    refine WC.region ?_
    refine WL.y (Yl.move rfl) rfl ?_ -- t30
    refine WL.y (Yl.assign rfl) rfl ?_ -- t4
    refine WL.nil ?_
    refine WC.ret ?_
    repeat (first | (with_reducible refine peelT ?_) | (with_reducible refine peelB ?_) | (with_reducible refine peelTX ?_) | (with_reducible refine peelBX ?_) | (with_reducible refine peelBN ?_) | (with_reducible refine peelBO rfl ?_))
    have hjn : j = ns.length := by omega
    subst hjn
    rw [List.take_length]
    exact ret1 (.inr rfl) Try.results21 rfl fun w' h => ⟨(yo, yc), trivial, rfl, h.sub (by repeat (first | exact TakeL.nil | (apply TakeL.cons; · repeat (first | exact Take1.head | apply Take1.tail))))⟩
set_option maxRecDepth 100000 in
theorem lcame_any (r q : Rs) (ms ns : List Dv) (hg : r.g.length = 16) (hg2 : q.g.length = 16) (h1 : DOk ms) (h2 : DOk ns) (hl : ms.length ≤ 1099511627776) (hl2 : ns.length ≤ 1000) (w : World)
    (hw : OK w (fpL [rdR r.v 2 ms.length (vcs Dv.val ms), rdR q.v 2 ns.length (vcs Dv.val ns)]) [rdR r.v 2 ms.length (vcs Dv.val ms), rdR q.v 2 ns.length (vcs Dv.val ns)] w) :
    Fn Try.prog 20 [.agg r.cells.toArray, .agg q.cells.toArray] [rdR r.v 2 ms.length (vcs Dv.val ms), rdR q.v 2 ns.length (vcs Dv.val ns)] w (fun y : Value => True) (fun y => y) (fun y => [ownR y 31 2 (cameF ms ns).length (vcs Dv.val (cameF ms ns))]) := by
  have hclen := came_len ms ns
  refine enterM Try.func20 rfl Try.ntmps20 rfl hw ?_
  refine WC.seq ?_
  refine WC.region ?_
  refine WL.to (To.box (cs := r.cells) rfl rfl) rfl ?_ -- t2
  intro b2
  refine WL.to (To.box (cs := q.cells) rfl rfl) rfl ?_ -- t3
  intro b3
  refine WL.y (Yl.assign rfl) rfl ?_ -- t4
  refine WL.nil ?_
  refine WC.seq ?_
  refine WC.region ?_
  refine WL.to (To.alloc (cs := [.slice none 0 0]) zr25 rfl) rfl ?_ -- t5
  intro b5
  refine WL.nil ?_
  refine WC.seq ?_
  refine WC.seq ?_
  refine WC.region ?_
  refine WL.y (Yl.loadN ag27 rfl (by repeat (first | exact Take1.head | apply Take1.tail)) (by rw [Rs.len18 hg]; rfl) (show (r.cells.drop 0).take 18 = r.cells by rw [List.drop_zero, List.take_of_length_le (by rw [Rs.len18 hg]; omega)])) rfl ?_ -- t7
  refine WL.y (Yl.loadN ag27 rfl (by repeat (first | exact Take1.head | apply Take1.tail)) (by rw [Rs.len18 hg2]; rfl) (show (q.cells.drop 0).take 18 = q.cells by rw [List.drop_zero, List.take_of_length_le (by rw [Rs.len18 hg2]; omega)])) rfl ?_ -- t8
  refine WL.callC (xs := [.tmp 7, .tmp 8]) (cap := []) rfl rfl en41 (by repeat (first | exact TakeL.nil | (apply TakeL.cons; · repeat (first | exact Take1.head | apply Take1.tail)))) (fun w hw => came_any r q ms ns hg hg2 h1 h2 hl (by omega) w hw.left.here) rfl ?_ -- t9 hailer/roster.Came
  rintro ⟨p9, q9, o9⟩ -
  refine WL.view (fun w h => h.addNil 31 2) ?_
  refine WL.nil ?_
  refine WC.block ?_
  refine WC.range (α := Value) (xs := cameYs ms ns) (fun i y => [blkR b5 25 [y], ownR y 31 2 ((cameF ms ns).take i).length (vcs Dv.val ((cameF ms ns).take i))]) (fun _ _ => True) (.slice none 0 0) rfl en59 cameYs_size rfl (by repeat (first | exact Take1.head | apply Take1.tail)) trivial (by repeat (first | exact TakeL.nil | (apply TakeL.cons; · repeat (first | exact Take1.head | apply Take1.tail)))) ?_ ?_
  · intro l i x y hx _ W
    obtain ⟨d, hdd, rfl⟩ : ∃ d, (cameF ms ns)[i]? = some d ∧ x = #[d.val] := by
      unfold cameYs at hx
      rw [List.getElem?_map] at hx
      cases hc : (cameF ms ns)[i]? with
      | none => rw [hc] at hx; cases hx
      | some d => rw [hc] at hx; exact ⟨d, rfl, by simpa using hx.symm⟩
    have hil := (List.getElem?_eq_some_iff.1 hdd).1
    have hsn := take_snoc _ _ _ hdd
    show WC _ _ _ ((10, d.val) :: _) _ _
    refine WC.region ?_
    refine WL.to (To.alloc (cs := d0.cells) zr31 rfl) rfl ?_ -- t6
    intro b6
    refine WL.sto (Sto.agg sz31 rfl rfl (by repeat (first | exact Take1.head | apply Take1.tail)) (Dv.ones d) rfl (by rfl) (show _ = d.cells from rfl)) (fun _ h => nomatch h) ?_ -- st 1
    refine WL.nil ?_
    repeat (first | (with_reducible refine peelT ?_) | (with_reducible refine peelB ?_) | (with_reducible refine peelTX ?_) | (with_reducible refine peelBX ?_) | (with_reducible refine peelBN ?_) | (with_reducible refine peelBO rfl ?_))
    refine fun W2 => ?_
    refine WC.block ?_
    refine WC.seq ?_
    refine WC.region ?_
    refine WL.y (Yl.load on25 rfl (by repeat (first | exact Take1.head | apply Take1.tail)) (by rfl)) rfl ?_ -- t11
    refine WL.y (Yl.loadN ag31 rfl (by repeat (first | exact Take1.head | apply Take1.tail)) (by rfl) (by rfl)) rfl ?_ -- t12
    refine WL.to (To.buildSlice (vs := [d.val]) un25 zs31 rfl rfl (by intro u hu; simp at hu; subst hu; rfl) (by decide) (by decide)) rfl ?_ -- t13
    intro b13
    rw [show flat [d.val] = d.cells by simp [flat, Dv.val, Value.cells]]
    refine WL.to (To.append sl25 rfl rfl (by repeat (first | exact Take1.head | apply Take1.tail)) (Reads.of rdDv (by repeat (first | exact Take1.head | apply Take1.tail))) (Dv.ones _) (show ((cameF ms ns).take i).length + 1 = ((cameF ms ns).take (i + 1)).length by rw [List.length_take, List.length_take]; omega) (show vcs Dv.val ((cameF ms ns).take i) ++ d.cells = vcs Dv.val ((cameF ms ns).take (i + 1)) by rw [← hsn, vcs_app, vcs_one]; simp [Dv.val, Value.cells]) (by rw [List.length_take]; unfold maxLen; omega) (by rw [List.length_take]; omega)) rfl ?_ -- t14
    rintro ⟨⟨ao14, c14⟩, hc14⟩
    dsimp only at hc14 ⊢
    refine WL.sto (Sto.one sz25 rfl rfl (by repeat (first | exact Take1.head | apply Take1.tail)) rfl (by rfl) (by rfl)) (fun _ h => nomatch h) ?_ -- st 2
    refine WL.nil ?_
    refine WC.seq ?_
    refine WC.region ?_
    refine WL.y (Yl.load on25 rfl (by repeat (first | exact Take1.head | apply Take1.tail)) (by rfl)) rfl ?_ -- t15
    refine WL.y (Yl.len un25 rfl) rfl ?_ -- t16
    refine WL.y (Yl.gtr rfl rfl) rfl ?_ -- t17
    refine WL.know (t := 17) (b' := false) rfl (by refine decide_eq_false ?_; rw [List.length_take]; omega) ?_
    refine WL.nil ?_
    refine WC.condF rfl (by first | rfl | (simp; done) | (simp; omega)) ?_
    refine WC.skip ?_
    repeat (first | (with_reducible refine peelT ?_) | (with_reducible refine peelB ?_) | (with_reducible refine peelTX ?_) | (with_reducible refine peelBX ?_) | (with_reducible refine peelBN ?_) | (with_reducible refine peelBO rfl ?_))
    exact ⟨[blkR b5 25 [.slice ao14 ((cameF ms ns).take (i + 1)).length c14], ownR (.slice ao14 ((cameF ms ns).take (i + 1)).length c14) 31 2 ((cameF ms ns).take (i + 1)).length (vcs Dv.val ((cameF ms ns).take (i + 1)))], _, (by repeat (first | exact TakeL.nil | (apply TakeL.cons; · repeat (first | exact Take1.head | apply Take1.tail)))), _, trivial, rfl⟩
  · rintro y D -
    rw [show (cameYs ms ns).length = (cameF ms ns).length by simp [cameYs], List.take_length]
    dsimp only [List.cons_append, List.nil_append]
    refine WC.seq ?_
    refine WC.region ?_
    refine WL.y (Yl.load on25 rfl (by repeat (first | exact Take1.head | apply Take1.tail)) (by rfl)) rfl ?_ -- t18
    refine WL.y (Yl.assign rfl) rfl ?_ -- t4
    refine WL.nil ?_
    refine WC.ret ?_
    repeat (first | (with_reducible refine peelT ?_) | (with_reducible refine peelB ?_) | (with_reducible refine peelTX ?_) | (with_reducible refine peelBX ?_) | (with_reducible refine peelBN ?_) | (with_reducible refine peelBO rfl ?_))
    refine retM.of (.cons (by repeat (first | exact Take1.head | apply Take1.tail)) .nil) ?_
    exact ret1 (.inr rfl) Try.results20 rfl fun w' h => ⟨y, trivial, rfl, h.sub (by repeat (first | exact TakeL.nil | (apply TakeL.cons; · repeat (first | exact Take1.head | apply Take1.tail))))⟩
theorem group_any (r : Rs) (hg : r.g.length = 16) (w : World) (hw : OK w (fpL []) [] w) :
    Fn Try.prog 50 [.agg r.cells.toArray] [] w (fun y : Option Addr × Nat => True) (fun y => .slice y.1 16 y.2) (fun y => [ownR (.slice y.1 16 y.2) 5 1 16 (ints .u8 r.g)]) := by
  refine enterF Try.func50 rfl Try.ntmps50 rfl hw ?_
  refine WC.seq ?_
  refine WC.region ?_
  refine WL.to (To.box (cs := r.cells) rfl rfl) rfl ?_ -- t1
  intro b1
  refine WL.y (Yl.assign rfl) rfl ?_ -- t2
  refine WL.nil ?_
  refine WC.seq ?_
  refine WC.region ?_
  refine WL.y (Yl.assign rfl) rfl ?_ -- t3
  refine WL.view (fun w h => h.addNil 5 1) ?_
  refine WL.nil ?_
  refine WC.seq ?_
  refine WC.seq ?_
  refine WC.region ?_
  refine WL.y (Yl.assign rfl) rfl ?_ -- t4
  refine WL.nil ?_
  refine WC.block ?_
  refine WC.loop (α := Nat × (Option Addr × Nat)) (fun s => [(1, .pointer (some ⟨b1, 0, none⟩)), (3, .slice s.2.1 s.1 s.2.2), (4, .int .i64 (s.1 : Int))]) (fun s => [blkR b1 27 r.cells, ownR (.slice s.2.1 s.1 s.2.2) 5 1 s.1 (ints .u8 (r.g.take s.1))]) (fun s => s.1 ≤ 16) (fun s => 16 - s.1) (0, none, 0) (Nat.zero_le _) ⟨(by repeat (first | exact Sub.nil | refine Sub.cons rfl ?_)), _, (by repeat (first | exact TakeL.nil | (apply TakeL.cons; · repeat (first | exact Take1.head | apply Take1.tail))))⟩ ?_
  rintro ⟨j, yo, yc⟩ hj
  dsimp only at hj ⊢
  refine WC.seq ?_
  refine WC.seq ?_
  refine WC.region ?_
  refine WL.y (Yl.move rfl) rfl ?_ -- t5
  refine WL.y (Yl.lss rfl rfl) rfl ?_ -- t6
  refine WL.nil ?_
  refine WC.condD rfl (fun g6 => ?_) (fun g6 => ?_)
  · refine WC.skip ?_
    refine WC.seq ?_
    refine WC.block ?_
    refine WC.region ?_
    refine WL.y (Yl.move rfl) rfl ?_ -- t9
    refine WL.y (Yl.move rfl) rfl ?_ -- t10
    refine WL.y (Yl.field fo27_0 rfl) rfl ?_ -- t11
    obtain ⟨x, hxx⟩ : ∃ x, r.g[j]? = some x := ⟨_, List.getElem?_eq_getElem (by omega)⟩
    refine WL.y (Yl.indexA un23 sz5 rfl rfl rfl (by omega)) rfl ?_ -- t12
    refine WL.y (Yl.load on5 rfl (by repeat (first | exact Take1.head | apply Take1.tail)) (show r.cells[0 + 0 + j * 1]? = some (.int .u8 x) by
      rw [show 0 + 0 + j * 1 = j by omega]
      unfold Rs.cells
      rw [List.getElem?_append_left (by rw [ints_length]; omega)]
      simp [ints, hxx])) rfl ?_ -- t13
    refine WL.to (To.buildSlice (vs := [.int .u8 x]) un53 zs5 rfl rfl (by simp [Value.cells]) (by decide) (by decide)) rfl ?_ -- t14
    intro b14
    refine WL.to (To.append sl53 rfl rfl (by repeat (first | exact Take1.head | apply Take1.tail)) (Reads.of (RdOf.blk (cs := [.int .u8 x]) (cs' := ints .u8 [x]) (Nat.le_refl _) (by unfold maxLen; omega) (by simp) rfl) (by repeat (first | exact Take1.head | apply Take1.tail))) (ints_one _ _) rfl (by rw [ints_append, take_snoc _ _ _ hxx]) (by unfold maxLen; omega) (by omega)) rfl ?_ -- t15
    rintro ⟨⟨ao15, c15⟩, hc15⟩
    dsimp only at hc15 ⊢
    refine WL.y (Yl.assign rfl) rfl ?_ -- t3
    refine WL.view (fun w h => h.addNil 5 1) ?_
    refine WL.nil ?_
    refine WC.region ?_
    refine WL.y (Yl.move rfl) rfl ?_ -- t7
    refine WL.y (Yl.add rfl rfl (IntWalk.i64_in _ (by omega))) rfl ?_ -- t8
    refine WL.y (Yl.assign rfl) rfl ?_ -- t4
    refine WL.nil ?_
    exact ⟨rfl, (j + 1, ao15, c15), by dsimp only; omega, by dsimp only; omega, (by repeat (first | exact Sub.nil | refine Sub.cons rfl ?_)), _, (by repeat (first | exact TakeL.nil | (apply TakeL.cons; · repeat (first | exact Take1.head | apply Take1.tail))))⟩
  · refine WC.exit ?_
    refine WC.seq ?_
    refine WC.region ?_
    refine WL.y (Yl.move rfl) rfl ?_ -- t16
    refine WL.y (Yl.assign rfl) rfl ?_ -- t2
    refine WL.nil ?_
    refine WC.ret ?_
    repeat (first | (with_reducible refine peelT ?_) | (with_reducible refine peelB ?_) | (with_reducible refine peelTX ?_) | (with_reducible refine peelBX ?_) | (with_reducible refine peelBN ?_) | (with_reducible refine peelBO rfl ?_))
    obtain rfl : j = 16 := by omega
    rw [List.take_of_length_le (by omega)]
    exact ret1 (.inr rfl) Try.results50 rfl fun w' h => ⟨(yo, yc), trivial, rfl, h.sub (by repeat (first | exact TakeL.nil | (apply TakeL.cons; · repeat (first | exact Take1.head | apply Take1.tail))))⟩
theorem fol_len {r q : Rs} {ms ns : List Dv} : (decide (0 < ((cameF ms ns).length : Int) + ((cameF ns ms).length : Int))) = (!(cameYs ms ns).isEmpty || !(cameYs ns ms).isEmpty) := by
  unfold cameYs
  cases cameF ms ns <;> cases cameF ns ms <;> simp <;> omega
set_option maxHeartbeats 1600000 in
set_option maxRecDepth 100000 in
theorem rfollows_any (r q : Rs) (ms ns : List Dv) (hr : r.ok) (hq : q.ok) (h1 : DOk ms) (h2 : DOk ns) (hl : ms.length ≤ 1000) (hl2 : ns.length ≤ 1000) (w : World)
    (hx : RdS w (fpL []) r.v 2 ms.length (vcs Dv.val ms)) (hy : RdS w (fpL []) q.v 2 ns.length (vcs Dv.val ns)) (hw : OK w (fpL []) [] w) :
    Fn Try.prog 19 [.agg r.cells.toArray, .agg q.cells.toArray] [] w (fun _ : Unit => True) (fun _ => .bool (folF r q ms ns)) (fun _ => []) := by
  have hg := hr.len
  have hg2 := hq.len
  have a16 := Rs.at16 hg
  have b16 := Rs.at16 hg2
  have rall : ∀ {r : Rs}, r.g.length = 16 → (r.cells.drop 0).take 18 = r.cells := fun hg => by rw [List.drop_zero, List.take_of_length_le (by rw [Rs.len18 hg]; omega)]
  have c1 := came_len ms ns
  have c2 := came_len ns ms
  refine enterF Try.func19 rfl Try.ntmps19 rfl hw ?_
  refine WC.seq ?_
  refine WC.region ?_
  refine WL.to (To.box (cs := r.cells) rfl rfl) rfl ?_ -- t2
  intro b2
  refine WL.to (To.box (cs := q.cells) rfl rfl) rfl ?_ -- t3
  intro b3
  refine WL.y (Yl.assign rfl) rfl ?_ -- t4
  refine WL.nil ?_
  refine WC.seq ?_
  refine WC.drawAny (Hs := [blkR b2 27 r.cells, blkR b3 27 q.cells]) mixed (by kernel_rfl) ⟨_, (by repeat (first | exact TakeL.nil | (apply TakeL.cons; · repeat (first | exact Take1.head | apply Take1.tail))))⟩ ?_
  refine WD.take 0 rfl (by kernel_rfl) (by kernel_rfl) (by kernel_rfl) rfl rfl (Yl.loadN ag27 rfl (by repeat (first | exact Take1.head | apply Take1.tail)) (by rw [Rs.len18 hg]; rfl) (rall hg)) rfl ?_ -- t5
  refine WD.one 1 (by kernel_rfl) ?_
  refine WO.callC (xs := [.tmp 5]) (cap := []) rfl .no rfl rfl en18 (by repeat (first | exact TakeL.nil | (apply TakeL.cons; · repeat (first | exact Take1.head | apply Take1.tail)))) (fun w hw => rmay_any r ms hg (by omega) h1 w (hw.srcS (A := []) hx) hw.left.here) rfl (fun _ => ⟨_, (by repeat (first | exact TakeL.nil | (apply TakeL.cons; · repeat (first | exact Take1.head | apply Take1.tail))))⟩) ?_ -- t6 hailer/hailerref23.May
  rintro ⟨⟩ -
  refine WD.take 2 rfl (by kernel_rfl) (by kernel_rfl) (by kernel_rfl) rfl rfl (Yl.move rfl) rfl ?_ -- t7
  refine WD.both (t := 7) rfl (fun g7 => ?_) (fun g7 => ?_)
  · refine WD.takeOn 3 rfl (by kernel_rfl) (by kernel_rfl) (by kernel_rfl) rfl rfl rfl rfl (Yl.loadN ag27 rfl (by repeat (first | exact Take1.head | apply Take1.tail)) (by rw [Rs.len18 hg2]; rfl) (rall hg2)) rfl ?_ -- t8
    refine WD.one 4 (by kernel_rfl) ?_
    refine WO.callC (xs := [.tmp 8]) (cap := []) rfl (.on rfl rfl) rfl rfl en18 (by repeat (first | exact TakeL.nil | (apply TakeL.cons; · repeat (first | exact Take1.head | apply Take1.tail)))) (fun w hw => rmay_any q ns hg2 (by omega) h2 w (hw.srcS (A := []) hy) hw.left.here) rfl (fun _ => ⟨_, (by repeat (first | exact TakeL.nil | (apply TakeL.cons; · repeat (first | exact Take1.head | apply Take1.tail))))⟩) ?_ -- t9 hailer/hailerref23.May
    rintro ⟨⟩ -
    refine WD.take 5 rfl (by kernel_rfl) (by kernel_rfl) (by kernel_rfl) rfl rfl (Yl.pickT rfl rfl) rfl ?_ -- t10
    refine WD.take 6 rfl (by kernel_rfl) (by kernel_rfl) (by kernel_rfl) rfl rfl (Yl.move rfl) rfl ?_ -- t11
    refine WD.both (t := 11) rfl (fun g11 => ?_) (fun g11 => ?_)
    · refine WD.takeOn 7 rfl (by kernel_rfl) (by kernel_rfl) (by kernel_rfl) rfl rfl rfl rfl (Yl.loadN ag27 rfl (by repeat (first | exact Take1.head | apply Take1.tail)) (by rw [Rs.len18 hg]; rfl) (rall hg)) rfl ?_ -- t12
      refine WD.takeOn 10 rfl (by kernel_rfl) (by kernel_rfl) (by kernel_rfl) rfl rfl rfl rfl (Yl.loadN ag27 rfl (by repeat (first | exact Take1.head | apply Take1.tail)) (by rw [Rs.len18 hg2]; rfl) (rall hg2)) rfl ?_ -- t15
      refine WD.one 8 (by kernel_rfl) ?_
      refine WO.callC (xs := [.tmp 12]) (cap := []) rfl (.on rfl rfl) rfl rfl en50 (by repeat (first | exact TakeL.nil | (apply TakeL.cons; · repeat (first | exact Take1.head | apply Take1.tail)))) (fun w hw => group_any r hg w hw.left.here) rfl (fun _ => ⟨_, (by repeat (first | exact TakeL.nil | (apply TakeL.cons; · repeat (first | exact Take1.head | apply Take1.tail))))⟩) ?_ -- t13 hailer/hailerref23.group
      rintro ⟨y13o, y13c⟩ -
      refine WD.two 9 11 (by kernel_rfl) ?_ ?_
      · refine WO.y rfl rfl (.on rfl rfl) (Yl.toStr (xs := r.g) un53 un5 un9 rfl (by rw [hg]; exact Reads.of (r := ownR (.slice y13o 16 y13c) 5 1 16 (ints .u8 r.g)) RdOf.own (by repeat (first | exact Take1.head | apply Take1.tail)))) rfl ?_
        refine WD.one 11 (by kernel_rfl) ?_
        refine WO.callC (xs := [.tmp 15]) (cap := []) rfl (.on rfl rfl) rfl rfl en50 (by repeat (first | exact TakeL.nil | (apply TakeL.cons; · repeat (first | exact Take1.head | apply Take1.tail)))) (fun w hw => group_any q hg2 w hw.left.here) rfl (fun _ => ⟨_, (by repeat (first | exact TakeL.nil | (apply TakeL.cons; · repeat (first | exact Take1.head | apply Take1.tail))))⟩) ?_ -- t16 hailer/hailerref23.group
        rintro ⟨y16o, y16c⟩ -
        refine WD.one 12 (by kernel_rfl) ?_
        refine WO.y rfl rfl (.on rfl rfl) (Yl.toStr (xs := q.g) un53 un5 un9 rfl (by rw [hg2]; exact Reads.of (r := ownR (.slice y16o 16 y16c) 5 1 16 (ints .u8 q.g)) RdOf.own (by repeat (first | exact Take1.head | apply Take1.tail)))) rfl ?_
        refine WD.takeOn 13 rfl (by kernel_rfl) (by kernel_rfl) (by kernel_rfl) rfl rfl rfl rfl (Yl.sEq rfl rfl) rfl ?_ -- t18
        refine WD.say (t := 18) (v' := .bool (decide (r.g = q.g))) rfl (by rw [strEq hr.b hq.b]) ?_
        refine WD.take 14 rfl (by kernel_rfl) (by kernel_rfl) (by kernel_rfl) rfl rfl (Yl.pickT rfl rfl) rfl ?_ -- t19
        refine WD.take 15 rfl (by kernel_rfl) (by kernel_rfl) (by kernel_rfl) rfl rfl (Yl.move rfl) rfl ?_ -- t20
        refine WD.both (t := 20) rfl (fun g20 => ?_) (fun g20 => ?_)
        · refine WD.takeOn 16 rfl (by kernel_rfl) (by kernel_rfl) (by kernel_rfl) rfl rfl rfl rfl (Yl.field fo27_1 rfl) rfl ?_ -- t21
          refine WD.takeOn 17 rfl (by kernel_rfl) (by kernel_rfl) (by kernel_rfl) rfl rfl rfl rfl (Yl.load on24 rfl (by repeat (first | exact Take1.head | apply Take1.tail)) b16) rfl ?_ -- t22
          refine WD.takeOn 18 rfl (by kernel_rfl) (by kernel_rfl) (by kernel_rfl) rfl rfl rfl rfl (Yl.field fo27_1 rfl) rfl ?_ -- t23
          refine WD.takeOn 19 rfl (by kernel_rfl) (by kernel_rfl) (by kernel_rfl) rfl rfl rfl rfl (Yl.load on24 rfl (by repeat (first | exact Take1.head | apply Take1.tail)) a16) rfl ?_ -- t24
          refine WD.takeOn 20 rfl (by kernel_rfl) (by kernel_rfl) (by kernel_rfl) rfl rfl rfl rfl (Yl.add rfl rfl rfl) rfl ?_ -- t25
          refine WD.say (t := 25) (v' := .int .u64 (r.e + 1)) rfl (by have := (mayF_iff h1).1 g7; rw [u64_in _ (by omega)]) ?_
          refine WD.takeOn 21 rfl (by kernel_rfl) (by kernel_rfl) (by kernel_rfl) rfl rfl rfl rfl (Yl.eql rfl rfl) rfl ?_ -- t26
          refine WD.take 22 rfl (by kernel_rfl) (by kernel_rfl) (by kernel_rfl) rfl rfl (Yl.pickT rfl rfl) rfl ?_ -- t27
          refine WD.take 23 rfl (by kernel_rfl) (by kernel_rfl) (by kernel_rfl) rfl rfl (Yl.move rfl) rfl ?_ -- t28
          refine WD.both (t := 28) rfl (fun g28 => ?_) (fun g28 => ?_)
          · refine WD.takeOn 24 rfl (by kernel_rfl) (by kernel_rfl) (by kernel_rfl) rfl rfl rfl rfl (Yl.loadN ag27 rfl (by repeat (first | exact Take1.head | apply Take1.tail)) (by rw [Rs.len18 hg]; rfl) (rall hg)) rfl ?_ -- t29
            refine WD.takeOn 25 rfl (by kernel_rfl) (by kernel_rfl) (by kernel_rfl) rfl rfl rfl rfl (Yl.loadN ag27 rfl (by repeat (first | exact Take1.head | apply Take1.tail)) (by rw [Rs.len18 hg2]; rfl) (rall hg2)) rfl ?_ -- t30
            refine WD.takeOn 28 rfl (by kernel_rfl) (by kernel_rfl) (by kernel_rfl) rfl rfl rfl rfl (Yl.loadN ag27 rfl (by repeat (first | exact Take1.head | apply Take1.tail)) (by rw [Rs.len18 hg2]; rfl) (rall hg2)) rfl ?_ -- t33
            refine WD.takeOn 29 rfl (by kernel_rfl) (by kernel_rfl) (by kernel_rfl) rfl rfl rfl rfl (Yl.loadN ag27 rfl (by repeat (first | exact Take1.head | apply Take1.tail)) (by rw [Rs.len18 hg]; rfl) (rall hg)) rfl ?_ -- t34
            refine WD.one 26 (by kernel_rfl) ?_
            refine WO.callC (xs := [.tmp 29, .tmp 30]) (cap := []) rfl (.on rfl rfl) rfl rfl en21 (by repeat (first | exact TakeL.nil | (apply TakeL.cons; · repeat (first | exact Take1.head | apply Take1.tail)))) (fun w hw => rcame_any r q ms ns hg hg2 h1 h2 (by omega) (by omega) w (hw.srcS (A := []) hx) (hw.srcS (A := []) hy) hw.left.here) rfl (fun _ => ⟨_, (by repeat (first | exact TakeL.nil | (apply TakeL.cons; · repeat (first | exact Take1.head | apply Take1.tail))))⟩) ?_ -- t31 hailer/hailerref23.Came
            rintro ⟨y31o, y31c⟩ -
            refine WD.takeOn 27 rfl (by kernel_rfl) (by kernel_rfl) (by kernel_rfl) rfl rfl rfl rfl (Yl.len un25 rfl) rfl ?_ -- t32
            refine WD.one 30 (by kernel_rfl) ?_
            refine WO.callC (xs := [.tmp 33, .tmp 34]) (cap := []) rfl (.on rfl rfl) rfl rfl en21 (by repeat (first | exact TakeL.nil | (apply TakeL.cons; · repeat (first | exact Take1.head | apply Take1.tail)))) (fun w hw => rcame_any q r ns ms hg2 hg h2 h1 (by omega) (by omega) w (hw.srcS (A := []) hy) (hw.srcS (A := []) hx) hw.left.here) rfl (fun _ => ⟨_, (by repeat (first | exact TakeL.nil | (apply TakeL.cons; · repeat (first | exact Take1.head | apply Take1.tail))))⟩) ?_ -- t35 hailer/hailerref23.Came
            rintro ⟨y35o, y35c⟩ -
            refine WD.takeOn 31 rfl (by kernel_rfl) (by kernel_rfl) (by kernel_rfl) rfl rfl rfl rfl (Yl.len un25 rfl) rfl ?_ -- t36
            refine WD.takeOn 32 rfl (by kernel_rfl) (by kernel_rfl) (by kernel_rfl) rfl rfl rfl rfl (Yl.add rfl rfl (IntWalk.i64_in _ (by omega))) rfl ?_ -- t37
            refine WD.takeOn 33 rfl (by kernel_rfl) (by kernel_rfl) (by kernel_rfl) rfl rfl rfl rfl (Yl.gtr rfl rfl) rfl ?_ -- t38
            refine WD.take 34 rfl (by kernel_rfl) (by kernel_rfl) (by kernel_rfl) rfl rfl (Yl.pickT rfl rfl) rfl ?_ -- t39
            refine WD.take 35 rfl (by kernel_rfl) (by kernel_rfl) (by kernel_rfl) rfl rfl (Yl.assign rfl) rfl ?_ -- t4
            refine WD.done (by kernel_rfl) ?_
            refine WC.ret ?_
            repeat (first | (with_reducible refine peelT ?_) | (with_reducible refine peelB ?_) | (with_reducible refine peelTX ?_) | (with_reducible refine peelBX ?_) | (with_reducible refine peelBN ?_) | (with_reducible refine peelBO rfl ?_))
            first
            | exact ret1 (.inr rfl) Try.results19 rfl fun w' h => ⟨(), trivial, by unfold folF; rw [g7, g11, g20, g28, fol_len (r := r) (q := q)]; rfl, h.sub (by repeat (first | exact TakeL.nil | (apply TakeL.cons; · repeat (first | exact Take1.head | apply Take1.tail))))⟩
            | exact ret1 (.inr rfl) Try.results19 rfl fun w' h => ⟨(), trivial, by unfold folF; rw [g28]; simp, h.sub (by repeat (first | exact TakeL.nil | (apply TakeL.cons; · repeat (first | exact Take1.head | apply Take1.tail))))⟩
            | exact ret1 (.inr rfl) Try.results19 rfl fun w' h => ⟨(), trivial, by unfold folF; rw [g20]; simp, h.sub (by repeat (first | exact TakeL.nil | (apply TakeL.cons; · repeat (first | exact Take1.head | apply Take1.tail))))⟩
            | exact ret1 (.inr rfl) Try.results19 rfl fun w' h => ⟨(), trivial, by unfold folF; rw [g11]; simp, h.sub (by repeat (first | exact TakeL.nil | (apply TakeL.cons; · repeat (first | exact Take1.head | apply Take1.tail))))⟩
            | exact ret1 (.inr rfl) Try.results19 rfl fun w' h => ⟨(), trivial, by unfold folF; rw [g7]; rfl, h.sub (by repeat (first | exact TakeL.nil | (apply TakeL.cons; · repeat (first | exact Take1.head | apply Take1.tail))))⟩
          · refine WD.takeOff 24 rfl (by kernel_rfl) (by kernel_rfl) (by kernel_rfl) rfl rfl rfl rfl rfl rfl ?_ -- t29
            refine WD.takeOff 25 rfl (by kernel_rfl) (by kernel_rfl) (by kernel_rfl) rfl rfl rfl rfl rfl rfl ?_ -- t30
            refine WD.takeOff 28 rfl (by kernel_rfl) (by kernel_rfl) (by kernel_rfl) rfl rfl rfl rfl rfl rfl ?_ -- t33
            refine WD.takeOff 29 rfl (by kernel_rfl) (by kernel_rfl) (by kernel_rfl) rfl rfl rfl rfl rfl rfl ?_ -- t34
            refine WD.one 26 (by kernel_rfl) ?_
            refine WO.off rfl rfl rfl rfl rfl rfl rfl ?_ -- t31
            refine WD.takeOff 27 rfl (by kernel_rfl) (by kernel_rfl) (by kernel_rfl) rfl rfl rfl rfl rfl rfl ?_ -- t32
            refine WD.one 30 (by kernel_rfl) ?_
            refine WO.off rfl rfl rfl rfl rfl rfl rfl ?_ -- t35
            refine WD.takeOff 31 rfl (by kernel_rfl) (by kernel_rfl) (by kernel_rfl) rfl rfl rfl rfl rfl rfl ?_ -- t36
            refine WD.takeOff 32 rfl (by kernel_rfl) (by kernel_rfl) (by kernel_rfl) rfl rfl rfl rfl rfl rfl ?_ -- t37
            refine WD.takeOff 33 rfl (by kernel_rfl) (by kernel_rfl) (by kernel_rfl) rfl rfl rfl rfl rfl rfl ?_ -- t38
            refine WD.take 34 rfl (by kernel_rfl) (by kernel_rfl) (by kernel_rfl) rfl rfl (Yl.pickF rfl rfl) rfl ?_ -- t39
            refine WD.take 35 rfl (by kernel_rfl) (by kernel_rfl) (by kernel_rfl) rfl rfl (Yl.assign rfl) rfl ?_ -- t4
            refine WD.done (by kernel_rfl) ?_
            refine WC.ret ?_
            repeat (first | (with_reducible refine peelT ?_) | (with_reducible refine peelB ?_) | (with_reducible refine peelTX ?_) | (with_reducible refine peelBX ?_) | (with_reducible refine peelBN ?_) | (with_reducible refine peelBO rfl ?_))
            first
            | exact ret1 (.inr rfl) Try.results19 rfl fun w' h => ⟨(), trivial, by unfold folF; rw [g7, g11, g20, g28, fol_len (r := r) (q := q)]; rfl, h.sub (by repeat (first | exact TakeL.nil | (apply TakeL.cons; · repeat (first | exact Take1.head | apply Take1.tail))))⟩
            | exact ret1 (.inr rfl) Try.results19 rfl fun w' h => ⟨(), trivial, by unfold folF; rw [g28]; simp, h.sub (by repeat (first | exact TakeL.nil | (apply TakeL.cons; · repeat (first | exact Take1.head | apply Take1.tail))))⟩
            | exact ret1 (.inr rfl) Try.results19 rfl fun w' h => ⟨(), trivial, by unfold folF; rw [g20]; simp, h.sub (by repeat (first | exact TakeL.nil | (apply TakeL.cons; · repeat (first | exact Take1.head | apply Take1.tail))))⟩
            | exact ret1 (.inr rfl) Try.results19 rfl fun w' h => ⟨(), trivial, by unfold folF; rw [g11]; simp, h.sub (by repeat (first | exact TakeL.nil | (apply TakeL.cons; · repeat (first | exact Take1.head | apply Take1.tail))))⟩
            | exact ret1 (.inr rfl) Try.results19 rfl fun w' h => ⟨(), trivial, by unfold folF; rw [g7]; rfl, h.sub (by repeat (first | exact TakeL.nil | (apply TakeL.cons; · repeat (first | exact Take1.head | apply Take1.tail))))⟩
        · refine WD.takeOff 16 rfl (by kernel_rfl) (by kernel_rfl) (by kernel_rfl) rfl rfl rfl rfl rfl rfl ?_ -- t21
          refine WD.takeOff 17 rfl (by kernel_rfl) (by kernel_rfl) (by kernel_rfl) rfl rfl rfl rfl rfl rfl ?_ -- t22
          refine WD.takeOff 18 rfl (by kernel_rfl) (by kernel_rfl) (by kernel_rfl) rfl rfl rfl rfl rfl rfl ?_ -- t23
          refine WD.takeOff 19 rfl (by kernel_rfl) (by kernel_rfl) (by kernel_rfl) rfl rfl rfl rfl rfl rfl ?_ -- t24
          refine WD.takeOff 20 rfl (by kernel_rfl) (by kernel_rfl) (by kernel_rfl) rfl rfl rfl rfl rfl rfl ?_ -- t25
          refine WD.takeOff 21 rfl (by kernel_rfl) (by kernel_rfl) (by kernel_rfl) rfl rfl rfl rfl rfl rfl ?_ -- t26
          refine WD.take 22 rfl (by kernel_rfl) (by kernel_rfl) (by kernel_rfl) rfl rfl (Yl.pickF rfl rfl) rfl ?_ -- t27
          refine WD.take 23 rfl (by kernel_rfl) (by kernel_rfl) (by kernel_rfl) rfl rfl (Yl.move rfl) rfl ?_ -- t28
          refine WD.takeOff 24 rfl (by kernel_rfl) (by kernel_rfl) (by kernel_rfl) rfl rfl rfl rfl rfl rfl ?_ -- t29
          refine WD.takeOff 25 rfl (by kernel_rfl) (by kernel_rfl) (by kernel_rfl) rfl rfl rfl rfl rfl rfl ?_ -- t30
          refine WD.takeOff 28 rfl (by kernel_rfl) (by kernel_rfl) (by kernel_rfl) rfl rfl rfl rfl rfl rfl ?_ -- t33
          refine WD.takeOff 29 rfl (by kernel_rfl) (by kernel_rfl) (by kernel_rfl) rfl rfl rfl rfl rfl rfl ?_ -- t34
          refine WD.one 26 (by kernel_rfl) ?_
          refine WO.off rfl rfl rfl rfl rfl rfl rfl ?_ -- t31
          refine WD.takeOff 27 rfl (by kernel_rfl) (by kernel_rfl) (by kernel_rfl) rfl rfl rfl rfl rfl rfl ?_ -- t32
          refine WD.one 30 (by kernel_rfl) ?_
          refine WO.off rfl rfl rfl rfl rfl rfl rfl ?_ -- t35
          refine WD.takeOff 31 rfl (by kernel_rfl) (by kernel_rfl) (by kernel_rfl) rfl rfl rfl rfl rfl rfl ?_ -- t36
          refine WD.takeOff 32 rfl (by kernel_rfl) (by kernel_rfl) (by kernel_rfl) rfl rfl rfl rfl rfl rfl ?_ -- t37
          refine WD.takeOff 33 rfl (by kernel_rfl) (by kernel_rfl) (by kernel_rfl) rfl rfl rfl rfl rfl rfl ?_ -- t38
          refine WD.take 34 rfl (by kernel_rfl) (by kernel_rfl) (by kernel_rfl) rfl rfl (Yl.pickF rfl rfl) rfl ?_ -- t39
          refine WD.take 35 rfl (by kernel_rfl) (by kernel_rfl) (by kernel_rfl) rfl rfl (Yl.assign rfl) rfl ?_ -- t4
          refine WD.done (by kernel_rfl) ?_
          refine WC.ret ?_
          repeat (first | (with_reducible refine peelT ?_) | (with_reducible refine peelB ?_) | (with_reducible refine peelTX ?_) | (with_reducible refine peelBX ?_) | (with_reducible refine peelBN ?_) | (with_reducible refine peelBO rfl ?_))
          first
          | exact ret1 (.inr rfl) Try.results19 rfl fun w' h => ⟨(), trivial, by unfold folF; rw [g7, g11, g20, g28, fol_len (r := r) (q := q)]; rfl, h.sub (by repeat (first | exact TakeL.nil | (apply TakeL.cons; · repeat (first | exact Take1.head | apply Take1.tail))))⟩
          | exact ret1 (.inr rfl) Try.results19 rfl fun w' h => ⟨(), trivial, by unfold folF; rw [g28]; simp, h.sub (by repeat (first | exact TakeL.nil | (apply TakeL.cons; · repeat (first | exact Take1.head | apply Take1.tail))))⟩
          | exact ret1 (.inr rfl) Try.results19 rfl fun w' h => ⟨(), trivial, by unfold folF; rw [g20]; simp, h.sub (by repeat (first | exact TakeL.nil | (apply TakeL.cons; · repeat (first | exact Take1.head | apply Take1.tail))))⟩
          | exact ret1 (.inr rfl) Try.results19 rfl fun w' h => ⟨(), trivial, by unfold folF; rw [g11]; simp, h.sub (by repeat (first | exact TakeL.nil | (apply TakeL.cons; · repeat (first | exact Take1.head | apply Take1.tail))))⟩
          | exact ret1 (.inr rfl) Try.results19 rfl fun w' h => ⟨(), trivial, by unfold folF; rw [g7]; rfl, h.sub (by repeat (first | exact TakeL.nil | (apply TakeL.cons; · repeat (first | exact Take1.head | apply Take1.tail))))⟩
      · refine WO.callC (xs := [.tmp 15]) (cap := []) rfl (.on rfl rfl) rfl rfl en50 (by repeat (first | exact TakeL.nil | (apply TakeL.cons; · repeat (first | exact Take1.head | apply Take1.tail)))) (fun w hw => group_any q hg2 w hw.left.here) rfl (fun _ => ⟨_, (by repeat (first | exact TakeL.nil | (apply TakeL.cons; · repeat (first | exact Take1.head | apply Take1.tail))))⟩) ?_ -- t16 hailer/hailerref23.group
        rintro ⟨y16o, y16c⟩ -
        refine WD.two 9 12 (by kernel_rfl) ?_ ?_
        · refine WO.y rfl rfl (.on rfl rfl) (Yl.toStr (xs := r.g) un53 un5 un9 rfl (by rw [hg]; exact Reads.of (r := ownR (.slice y13o 16 y13c) 5 1 16 (ints .u8 r.g)) RdOf.own (by repeat (first | exact Take1.head | apply Take1.tail)))) rfl ?_
          refine WD.one 12 (by kernel_rfl) ?_
          refine WO.y rfl rfl (.on rfl rfl) (Yl.toStr (xs := q.g) un53 un5 un9 rfl (by rw [hg2]; exact Reads.of (r := ownR (.slice y16o 16 y16c) 5 1 16 (ints .u8 q.g)) RdOf.own (by repeat (first | exact Take1.head | apply Take1.tail)))) rfl ?_
          refine WD.takeOn 13 rfl (by kernel_rfl) (by kernel_rfl) (by kernel_rfl) rfl rfl rfl rfl (Yl.sEq rfl rfl) rfl ?_ -- t18
          refine WD.say (t := 18) (v' := .bool (decide (r.g = q.g))) rfl (by rw [strEq hr.b hq.b]) ?_
          refine WD.take 14 rfl (by kernel_rfl) (by kernel_rfl) (by kernel_rfl) rfl rfl (Yl.pickT rfl rfl) rfl ?_ -- t19
          refine WD.take 15 rfl (by kernel_rfl) (by kernel_rfl) (by kernel_rfl) rfl rfl (Yl.move rfl) rfl ?_ -- t20
          refine WD.both (t := 20) rfl (fun g20 => ?_) (fun g20 => ?_)
          · refine WD.takeOn 16 rfl (by kernel_rfl) (by kernel_rfl) (by kernel_rfl) rfl rfl rfl rfl (Yl.field fo27_1 rfl) rfl ?_ -- t21
            refine WD.takeOn 17 rfl (by kernel_rfl) (by kernel_rfl) (by kernel_rfl) rfl rfl rfl rfl (Yl.load on24 rfl (by repeat (first | exact Take1.head | apply Take1.tail)) b16) rfl ?_ -- t22
            refine WD.takeOn 18 rfl (by kernel_rfl) (by kernel_rfl) (by kernel_rfl) rfl rfl rfl rfl (Yl.field fo27_1 rfl) rfl ?_ -- t23
            refine WD.takeOn 19 rfl (by kernel_rfl) (by kernel_rfl) (by kernel_rfl) rfl rfl rfl rfl (Yl.load on24 rfl (by repeat (first | exact Take1.head | apply Take1.tail)) a16) rfl ?_ -- t24
            refine WD.takeOn 20 rfl (by kernel_rfl) (by kernel_rfl) (by kernel_rfl) rfl rfl rfl rfl (Yl.add rfl rfl rfl) rfl ?_ -- t25
            refine WD.say (t := 25) (v' := .int .u64 (r.e + 1)) rfl (by have := (mayF_iff h1).1 g7; rw [u64_in _ (by omega)]) ?_
            refine WD.takeOn 21 rfl (by kernel_rfl) (by kernel_rfl) (by kernel_rfl) rfl rfl rfl rfl (Yl.eql rfl rfl) rfl ?_ -- t26
            refine WD.take 22 rfl (by kernel_rfl) (by kernel_rfl) (by kernel_rfl) rfl rfl (Yl.pickT rfl rfl) rfl ?_ -- t27
            refine WD.take 23 rfl (by kernel_rfl) (by kernel_rfl) (by kernel_rfl) rfl rfl (Yl.move rfl) rfl ?_ -- t28
            refine WD.both (t := 28) rfl (fun g28 => ?_) (fun g28 => ?_)
            · refine WD.takeOn 24 rfl (by kernel_rfl) (by kernel_rfl) (by kernel_rfl) rfl rfl rfl rfl (Yl.loadN ag27 rfl (by repeat (first | exact Take1.head | apply Take1.tail)) (by rw [Rs.len18 hg]; rfl) (rall hg)) rfl ?_ -- t29
              refine WD.takeOn 25 rfl (by kernel_rfl) (by kernel_rfl) (by kernel_rfl) rfl rfl rfl rfl (Yl.loadN ag27 rfl (by repeat (first | exact Take1.head | apply Take1.tail)) (by rw [Rs.len18 hg2]; rfl) (rall hg2)) rfl ?_ -- t30
              refine WD.takeOn 28 rfl (by kernel_rfl) (by kernel_rfl) (by kernel_rfl) rfl rfl rfl rfl (Yl.loadN ag27 rfl (by repeat (first | exact Take1.head | apply Take1.tail)) (by rw [Rs.len18 hg2]; rfl) (rall hg2)) rfl ?_ -- t33
              refine WD.takeOn 29 rfl (by kernel_rfl) (by kernel_rfl) (by kernel_rfl) rfl rfl rfl rfl (Yl.loadN ag27 rfl (by repeat (first | exact Take1.head | apply Take1.tail)) (by rw [Rs.len18 hg]; rfl) (rall hg)) rfl ?_ -- t34
              refine WD.one 26 (by kernel_rfl) ?_
              refine WO.callC (xs := [.tmp 29, .tmp 30]) (cap := []) rfl (.on rfl rfl) rfl rfl en21 (by repeat (first | exact TakeL.nil | (apply TakeL.cons; · repeat (first | exact Take1.head | apply Take1.tail)))) (fun w hw => rcame_any r q ms ns hg hg2 h1 h2 (by omega) (by omega) w (hw.srcS (A := []) hx) (hw.srcS (A := []) hy) hw.left.here) rfl (fun _ => ⟨_, (by repeat (first | exact TakeL.nil | (apply TakeL.cons; · repeat (first | exact Take1.head | apply Take1.tail))))⟩) ?_ -- t31 hailer/hailerref23.Came
              rintro ⟨y31o, y31c⟩ -
              refine WD.takeOn 27 rfl (by kernel_rfl) (by kernel_rfl) (by kernel_rfl) rfl rfl rfl rfl (Yl.len un25 rfl) rfl ?_ -- t32
              refine WD.one 30 (by kernel_rfl) ?_
              refine WO.callC (xs := [.tmp 33, .tmp 34]) (cap := []) rfl (.on rfl rfl) rfl rfl en21 (by repeat (first | exact TakeL.nil | (apply TakeL.cons; · repeat (first | exact Take1.head | apply Take1.tail)))) (fun w hw => rcame_any q r ns ms hg2 hg h2 h1 (by omega) (by omega) w (hw.srcS (A := []) hy) (hw.srcS (A := []) hx) hw.left.here) rfl (fun _ => ⟨_, (by repeat (first | exact TakeL.nil | (apply TakeL.cons; · repeat (first | exact Take1.head | apply Take1.tail))))⟩) ?_ -- t35 hailer/hailerref23.Came
              rintro ⟨y35o, y35c⟩ -
              refine WD.takeOn 31 rfl (by kernel_rfl) (by kernel_rfl) (by kernel_rfl) rfl rfl rfl rfl (Yl.len un25 rfl) rfl ?_ -- t36
              refine WD.takeOn 32 rfl (by kernel_rfl) (by kernel_rfl) (by kernel_rfl) rfl rfl rfl rfl (Yl.add rfl rfl (IntWalk.i64_in _ (by omega))) rfl ?_ -- t37
              refine WD.takeOn 33 rfl (by kernel_rfl) (by kernel_rfl) (by kernel_rfl) rfl rfl rfl rfl (Yl.gtr rfl rfl) rfl ?_ -- t38
              refine WD.take 34 rfl (by kernel_rfl) (by kernel_rfl) (by kernel_rfl) rfl rfl (Yl.pickT rfl rfl) rfl ?_ -- t39
              refine WD.take 35 rfl (by kernel_rfl) (by kernel_rfl) (by kernel_rfl) rfl rfl (Yl.assign rfl) rfl ?_ -- t4
              refine WD.done (by kernel_rfl) ?_
              refine WC.ret ?_
              repeat (first | (with_reducible refine peelT ?_) | (with_reducible refine peelB ?_) | (with_reducible refine peelTX ?_) | (with_reducible refine peelBX ?_) | (with_reducible refine peelBN ?_) | (with_reducible refine peelBO rfl ?_))
              first
              | exact ret1 (.inr rfl) Try.results19 rfl fun w' h => ⟨(), trivial, by unfold folF; rw [g7, g11, g20, g28, fol_len (r := r) (q := q)]; rfl, h.sub (by repeat (first | exact TakeL.nil | (apply TakeL.cons; · repeat (first | exact Take1.head | apply Take1.tail))))⟩
              | exact ret1 (.inr rfl) Try.results19 rfl fun w' h => ⟨(), trivial, by unfold folF; rw [g28]; simp, h.sub (by repeat (first | exact TakeL.nil | (apply TakeL.cons; · repeat (first | exact Take1.head | apply Take1.tail))))⟩
              | exact ret1 (.inr rfl) Try.results19 rfl fun w' h => ⟨(), trivial, by unfold folF; rw [g20]; simp, h.sub (by repeat (first | exact TakeL.nil | (apply TakeL.cons; · repeat (first | exact Take1.head | apply Take1.tail))))⟩
              | exact ret1 (.inr rfl) Try.results19 rfl fun w' h => ⟨(), trivial, by unfold folF; rw [g11]; simp, h.sub (by repeat (first | exact TakeL.nil | (apply TakeL.cons; · repeat (first | exact Take1.head | apply Take1.tail))))⟩
              | exact ret1 (.inr rfl) Try.results19 rfl fun w' h => ⟨(), trivial, by unfold folF; rw [g7]; rfl, h.sub (by repeat (first | exact TakeL.nil | (apply TakeL.cons; · repeat (first | exact Take1.head | apply Take1.tail))))⟩
            · refine WD.takeOff 24 rfl (by kernel_rfl) (by kernel_rfl) (by kernel_rfl) rfl rfl rfl rfl rfl rfl ?_ -- t29
              refine WD.takeOff 25 rfl (by kernel_rfl) (by kernel_rfl) (by kernel_rfl) rfl rfl rfl rfl rfl rfl ?_ -- t30
              refine WD.takeOff 28 rfl (by kernel_rfl) (by kernel_rfl) (by kernel_rfl) rfl rfl rfl rfl rfl rfl ?_ -- t33
              refine WD.takeOff 29 rfl (by kernel_rfl) (by kernel_rfl) (by kernel_rfl) rfl rfl rfl rfl rfl rfl ?_ -- t34
              refine WD.one 26 (by kernel_rfl) ?_
              refine WO.off rfl rfl rfl rfl rfl rfl rfl ?_ -- t31
              refine WD.takeOff 27 rfl (by kernel_rfl) (by kernel_rfl) (by kernel_rfl) rfl rfl rfl rfl rfl rfl ?_ -- t32
              refine WD.one 30 (by kernel_rfl) ?_
              refine WO.off rfl rfl rfl rfl rfl rfl rfl ?_ -- t35
              refine WD.takeOff 31 rfl (by kernel_rfl) (by kernel_rfl) (by kernel_rfl) rfl rfl rfl rfl rfl rfl ?_ -- t36
              refine WD.takeOff 32 rfl (by kernel_rfl) (by kernel_rfl) (by kernel_rfl) rfl rfl rfl rfl rfl rfl ?_ -- t37
              refine WD.takeOff 33 rfl (by kernel_rfl) (by kernel_rfl) (by kernel_rfl) rfl rfl rfl rfl rfl rfl ?_ -- t38
              refine WD.take 34 rfl (by kernel_rfl) (by kernel_rfl) (by kernel_rfl) rfl rfl (Yl.pickF rfl rfl) rfl ?_ -- t39
              refine WD.take 35 rfl (by kernel_rfl) (by kernel_rfl) (by kernel_rfl) rfl rfl (Yl.assign rfl) rfl ?_ -- t4
              refine WD.done (by kernel_rfl) ?_
              refine WC.ret ?_
              repeat (first | (with_reducible refine peelT ?_) | (with_reducible refine peelB ?_) | (with_reducible refine peelTX ?_) | (with_reducible refine peelBX ?_) | (with_reducible refine peelBN ?_) | (with_reducible refine peelBO rfl ?_))
              first
              | exact ret1 (.inr rfl) Try.results19 rfl fun w' h => ⟨(), trivial, by unfold folF; rw [g7, g11, g20, g28, fol_len (r := r) (q := q)]; rfl, h.sub (by repeat (first | exact TakeL.nil | (apply TakeL.cons; · repeat (first | exact Take1.head | apply Take1.tail))))⟩
              | exact ret1 (.inr rfl) Try.results19 rfl fun w' h => ⟨(), trivial, by unfold folF; rw [g28]; simp, h.sub (by repeat (first | exact TakeL.nil | (apply TakeL.cons; · repeat (first | exact Take1.head | apply Take1.tail))))⟩
              | exact ret1 (.inr rfl) Try.results19 rfl fun w' h => ⟨(), trivial, by unfold folF; rw [g20]; simp, h.sub (by repeat (first | exact TakeL.nil | (apply TakeL.cons; · repeat (first | exact Take1.head | apply Take1.tail))))⟩
              | exact ret1 (.inr rfl) Try.results19 rfl fun w' h => ⟨(), trivial, by unfold folF; rw [g11]; simp, h.sub (by repeat (first | exact TakeL.nil | (apply TakeL.cons; · repeat (first | exact Take1.head | apply Take1.tail))))⟩
              | exact ret1 (.inr rfl) Try.results19 rfl fun w' h => ⟨(), trivial, by unfold folF; rw [g7]; rfl, h.sub (by repeat (first | exact TakeL.nil | (apply TakeL.cons; · repeat (first | exact Take1.head | apply Take1.tail))))⟩
          · refine WD.takeOff 16 rfl (by kernel_rfl) (by kernel_rfl) (by kernel_rfl) rfl rfl rfl rfl rfl rfl ?_ -- t21
            refine WD.takeOff 17 rfl (by kernel_rfl) (by kernel_rfl) (by kernel_rfl) rfl rfl rfl rfl rfl rfl ?_ -- t22
            refine WD.takeOff 18 rfl (by kernel_rfl) (by kernel_rfl) (by kernel_rfl) rfl rfl rfl rfl rfl rfl ?_ -- t23
            refine WD.takeOff 19 rfl (by kernel_rfl) (by kernel_rfl) (by kernel_rfl) rfl rfl rfl rfl rfl rfl ?_ -- t24
            refine WD.takeOff 20 rfl (by kernel_rfl) (by kernel_rfl) (by kernel_rfl) rfl rfl rfl rfl rfl rfl ?_ -- t25
            refine WD.takeOff 21 rfl (by kernel_rfl) (by kernel_rfl) (by kernel_rfl) rfl rfl rfl rfl rfl rfl ?_ -- t26
            refine WD.take 22 rfl (by kernel_rfl) (by kernel_rfl) (by kernel_rfl) rfl rfl (Yl.pickF rfl rfl) rfl ?_ -- t27
            refine WD.take 23 rfl (by kernel_rfl) (by kernel_rfl) (by kernel_rfl) rfl rfl (Yl.move rfl) rfl ?_ -- t28
            refine WD.takeOff 24 rfl (by kernel_rfl) (by kernel_rfl) (by kernel_rfl) rfl rfl rfl rfl rfl rfl ?_ -- t29
            refine WD.takeOff 25 rfl (by kernel_rfl) (by kernel_rfl) (by kernel_rfl) rfl rfl rfl rfl rfl rfl ?_ -- t30
            refine WD.takeOff 28 rfl (by kernel_rfl) (by kernel_rfl) (by kernel_rfl) rfl rfl rfl rfl rfl rfl ?_ -- t33
            refine WD.takeOff 29 rfl (by kernel_rfl) (by kernel_rfl) (by kernel_rfl) rfl rfl rfl rfl rfl rfl ?_ -- t34
            refine WD.one 26 (by kernel_rfl) ?_
            refine WO.off rfl rfl rfl rfl rfl rfl rfl ?_ -- t31
            refine WD.takeOff 27 rfl (by kernel_rfl) (by kernel_rfl) (by kernel_rfl) rfl rfl rfl rfl rfl rfl ?_ -- t32
            refine WD.one 30 (by kernel_rfl) ?_
            refine WO.off rfl rfl rfl rfl rfl rfl rfl ?_ -- t35
            refine WD.takeOff 31 rfl (by kernel_rfl) (by kernel_rfl) (by kernel_rfl) rfl rfl rfl rfl rfl rfl ?_ -- t36
            refine WD.takeOff 32 rfl (by kernel_rfl) (by kernel_rfl) (by kernel_rfl) rfl rfl rfl rfl rfl rfl ?_ -- t37
            refine WD.takeOff 33 rfl (by kernel_rfl) (by kernel_rfl) (by kernel_rfl) rfl rfl rfl rfl rfl rfl ?_ -- t38
            refine WD.take 34 rfl (by kernel_rfl) (by kernel_rfl) (by kernel_rfl) rfl rfl (Yl.pickF rfl rfl) rfl ?_ -- t39
            refine WD.take 35 rfl (by kernel_rfl) (by kernel_rfl) (by kernel_rfl) rfl rfl (Yl.assign rfl) rfl ?_ -- t4
            refine WD.done (by kernel_rfl) ?_
            refine WC.ret ?_
            repeat (first | (with_reducible refine peelT ?_) | (with_reducible refine peelB ?_) | (with_reducible refine peelTX ?_) | (with_reducible refine peelBX ?_) | (with_reducible refine peelBN ?_) | (with_reducible refine peelBO rfl ?_))
            first
            | exact ret1 (.inr rfl) Try.results19 rfl fun w' h => ⟨(), trivial, by unfold folF; rw [g7, g11, g20, g28, fol_len (r := r) (q := q)]; rfl, h.sub (by repeat (first | exact TakeL.nil | (apply TakeL.cons; · repeat (first | exact Take1.head | apply Take1.tail))))⟩
            | exact ret1 (.inr rfl) Try.results19 rfl fun w' h => ⟨(), trivial, by unfold folF; rw [g28]; simp, h.sub (by repeat (first | exact TakeL.nil | (apply TakeL.cons; · repeat (first | exact Take1.head | apply Take1.tail))))⟩
            | exact ret1 (.inr rfl) Try.results19 rfl fun w' h => ⟨(), trivial, by unfold folF; rw [g20]; simp, h.sub (by repeat (first | exact TakeL.nil | (apply TakeL.cons; · repeat (first | exact Take1.head | apply Take1.tail))))⟩
            | exact ret1 (.inr rfl) Try.results19 rfl fun w' h => ⟨(), trivial, by unfold folF; rw [g11]; simp, h.sub (by repeat (first | exact TakeL.nil | (apply TakeL.cons; · repeat (first | exact Take1.head | apply Take1.tail))))⟩
            | exact ret1 (.inr rfl) Try.results19 rfl fun w' h => ⟨(), trivial, by unfold folF; rw [g7]; rfl, h.sub (by repeat (first | exact TakeL.nil | (apply TakeL.cons; · repeat (first | exact Take1.head | apply Take1.tail))))⟩
        · refine WO.y rfl rfl (.on rfl rfl) (Yl.toStr (xs := q.g) un53 un5 un9 rfl (by rw [hg2]; exact Reads.of (r := ownR (.slice y16o 16 y16c) 5 1 16 (ints .u8 q.g)) RdOf.own (by repeat (first | exact Take1.head | apply Take1.tail)))) rfl ?_
          refine WD.one 9 (by kernel_rfl) ?_
          refine WO.y rfl rfl (.on rfl rfl) (Yl.toStr (xs := r.g) un53 un5 un9 rfl (by rw [hg]; exact Reads.of (r := ownR (.slice y13o 16 y13c) 5 1 16 (ints .u8 r.g)) RdOf.own (by repeat (first | exact Take1.head | apply Take1.tail)))) rfl ?_
          refine WD.takeOn 13 rfl (by kernel_rfl) (by kernel_rfl) (by kernel_rfl) rfl rfl rfl rfl (Yl.sEq rfl rfl) rfl ?_ -- t18
          refine WD.say (t := 18) (v' := .bool (decide (r.g = q.g))) rfl (by rw [strEq hr.b hq.b]) ?_
          refine WD.take 14 rfl (by kernel_rfl) (by kernel_rfl) (by kernel_rfl) rfl rfl (Yl.pickT rfl rfl) rfl ?_ -- t19
          refine WD.take 15 rfl (by kernel_rfl) (by kernel_rfl) (by kernel_rfl) rfl rfl (Yl.move rfl) rfl ?_ -- t20
          refine WD.both (t := 20) rfl (fun g20 => ?_) (fun g20 => ?_)
          · refine WD.takeOn 16 rfl (by kernel_rfl) (by kernel_rfl) (by kernel_rfl) rfl rfl rfl rfl (Yl.field fo27_1 rfl) rfl ?_ -- t21
            refine WD.takeOn 17 rfl (by kernel_rfl) (by kernel_rfl) (by kernel_rfl) rfl rfl rfl rfl (Yl.load on24 rfl (by repeat (first | exact Take1.head | apply Take1.tail)) b16) rfl ?_ -- t22
            refine WD.takeOn 18 rfl (by kernel_rfl) (by kernel_rfl) (by kernel_rfl) rfl rfl rfl rfl (Yl.field fo27_1 rfl) rfl ?_ -- t23
            refine WD.takeOn 19 rfl (by kernel_rfl) (by kernel_rfl) (by kernel_rfl) rfl rfl rfl rfl (Yl.load on24 rfl (by repeat (first | exact Take1.head | apply Take1.tail)) a16) rfl ?_ -- t24
            refine WD.takeOn 20 rfl (by kernel_rfl) (by kernel_rfl) (by kernel_rfl) rfl rfl rfl rfl (Yl.add rfl rfl rfl) rfl ?_ -- t25
            refine WD.say (t := 25) (v' := .int .u64 (r.e + 1)) rfl (by have := (mayF_iff h1).1 g7; rw [u64_in _ (by omega)]) ?_
            refine WD.takeOn 21 rfl (by kernel_rfl) (by kernel_rfl) (by kernel_rfl) rfl rfl rfl rfl (Yl.eql rfl rfl) rfl ?_ -- t26
            refine WD.take 22 rfl (by kernel_rfl) (by kernel_rfl) (by kernel_rfl) rfl rfl (Yl.pickT rfl rfl) rfl ?_ -- t27
            refine WD.take 23 rfl (by kernel_rfl) (by kernel_rfl) (by kernel_rfl) rfl rfl (Yl.move rfl) rfl ?_ -- t28
            refine WD.both (t := 28) rfl (fun g28 => ?_) (fun g28 => ?_)
            · refine WD.takeOn 24 rfl (by kernel_rfl) (by kernel_rfl) (by kernel_rfl) rfl rfl rfl rfl (Yl.loadN ag27 rfl (by repeat (first | exact Take1.head | apply Take1.tail)) (by rw [Rs.len18 hg]; rfl) (rall hg)) rfl ?_ -- t29
              refine WD.takeOn 25 rfl (by kernel_rfl) (by kernel_rfl) (by kernel_rfl) rfl rfl rfl rfl (Yl.loadN ag27 rfl (by repeat (first | exact Take1.head | apply Take1.tail)) (by rw [Rs.len18 hg2]; rfl) (rall hg2)) rfl ?_ -- t30
              refine WD.takeOn 28 rfl (by kernel_rfl) (by kernel_rfl) (by kernel_rfl) rfl rfl rfl rfl (Yl.loadN ag27 rfl (by repeat (first | exact Take1.head | apply Take1.tail)) (by rw [Rs.len18 hg2]; rfl) (rall hg2)) rfl ?_ -- t33
              refine WD.takeOn 29 rfl (by kernel_rfl) (by kernel_rfl) (by kernel_rfl) rfl rfl rfl rfl (Yl.loadN ag27 rfl (by repeat (first | exact Take1.head | apply Take1.tail)) (by rw [Rs.len18 hg]; rfl) (rall hg)) rfl ?_ -- t34
              refine WD.one 26 (by kernel_rfl) ?_
              refine WO.callC (xs := [.tmp 29, .tmp 30]) (cap := []) rfl (.on rfl rfl) rfl rfl en21 (by repeat (first | exact TakeL.nil | (apply TakeL.cons; · repeat (first | exact Take1.head | apply Take1.tail)))) (fun w hw => rcame_any r q ms ns hg hg2 h1 h2 (by omega) (by omega) w (hw.srcS (A := []) hx) (hw.srcS (A := []) hy) hw.left.here) rfl (fun _ => ⟨_, (by repeat (first | exact TakeL.nil | (apply TakeL.cons; · repeat (first | exact Take1.head | apply Take1.tail))))⟩) ?_ -- t31 hailer/hailerref23.Came
              rintro ⟨y31o, y31c⟩ -
              refine WD.takeOn 27 rfl (by kernel_rfl) (by kernel_rfl) (by kernel_rfl) rfl rfl rfl rfl (Yl.len un25 rfl) rfl ?_ -- t32
              refine WD.one 30 (by kernel_rfl) ?_
              refine WO.callC (xs := [.tmp 33, .tmp 34]) (cap := []) rfl (.on rfl rfl) rfl rfl en21 (by repeat (first | exact TakeL.nil | (apply TakeL.cons; · repeat (first | exact Take1.head | apply Take1.tail)))) (fun w hw => rcame_any q r ns ms hg2 hg h2 h1 (by omega) (by omega) w (hw.srcS (A := []) hy) (hw.srcS (A := []) hx) hw.left.here) rfl (fun _ => ⟨_, (by repeat (first | exact TakeL.nil | (apply TakeL.cons; · repeat (first | exact Take1.head | apply Take1.tail))))⟩) ?_ -- t35 hailer/hailerref23.Came
              rintro ⟨y35o, y35c⟩ -
              refine WD.takeOn 31 rfl (by kernel_rfl) (by kernel_rfl) (by kernel_rfl) rfl rfl rfl rfl (Yl.len un25 rfl) rfl ?_ -- t36
              refine WD.takeOn 32 rfl (by kernel_rfl) (by kernel_rfl) (by kernel_rfl) rfl rfl rfl rfl (Yl.add rfl rfl (IntWalk.i64_in _ (by omega))) rfl ?_ -- t37
              refine WD.takeOn 33 rfl (by kernel_rfl) (by kernel_rfl) (by kernel_rfl) rfl rfl rfl rfl (Yl.gtr rfl rfl) rfl ?_ -- t38
              refine WD.take 34 rfl (by kernel_rfl) (by kernel_rfl) (by kernel_rfl) rfl rfl (Yl.pickT rfl rfl) rfl ?_ -- t39
              refine WD.take 35 rfl (by kernel_rfl) (by kernel_rfl) (by kernel_rfl) rfl rfl (Yl.assign rfl) rfl ?_ -- t4
              refine WD.done (by kernel_rfl) ?_
              refine WC.ret ?_
              repeat (first | (with_reducible refine peelT ?_) | (with_reducible refine peelB ?_) | (with_reducible refine peelTX ?_) | (with_reducible refine peelBX ?_) | (with_reducible refine peelBN ?_) | (with_reducible refine peelBO rfl ?_))
              first
              | exact ret1 (.inr rfl) Try.results19 rfl fun w' h => ⟨(), trivial, by unfold folF; rw [g7, g11, g20, g28, fol_len (r := r) (q := q)]; rfl, h.sub (by repeat (first | exact TakeL.nil | (apply TakeL.cons; · repeat (first | exact Take1.head | apply Take1.tail))))⟩
              | exact ret1 (.inr rfl) Try.results19 rfl fun w' h => ⟨(), trivial, by unfold folF; rw [g28]; simp, h.sub (by repeat (first | exact TakeL.nil | (apply TakeL.cons; · repeat (first | exact Take1.head | apply Take1.tail))))⟩
              | exact ret1 (.inr rfl) Try.results19 rfl fun w' h => ⟨(), trivial, by unfold folF; rw [g20]; simp, h.sub (by repeat (first | exact TakeL.nil | (apply TakeL.cons; · repeat (first | exact Take1.head | apply Take1.tail))))⟩
              | exact ret1 (.inr rfl) Try.results19 rfl fun w' h => ⟨(), trivial, by unfold folF; rw [g11]; simp, h.sub (by repeat (first | exact TakeL.nil | (apply TakeL.cons; · repeat (first | exact Take1.head | apply Take1.tail))))⟩
              | exact ret1 (.inr rfl) Try.results19 rfl fun w' h => ⟨(), trivial, by unfold folF; rw [g7]; rfl, h.sub (by repeat (first | exact TakeL.nil | (apply TakeL.cons; · repeat (first | exact Take1.head | apply Take1.tail))))⟩
            · refine WD.takeOff 24 rfl (by kernel_rfl) (by kernel_rfl) (by kernel_rfl) rfl rfl rfl rfl rfl rfl ?_ -- t29
              refine WD.takeOff 25 rfl (by kernel_rfl) (by kernel_rfl) (by kernel_rfl) rfl rfl rfl rfl rfl rfl ?_ -- t30
              refine WD.takeOff 28 rfl (by kernel_rfl) (by kernel_rfl) (by kernel_rfl) rfl rfl rfl rfl rfl rfl ?_ -- t33
              refine WD.takeOff 29 rfl (by kernel_rfl) (by kernel_rfl) (by kernel_rfl) rfl rfl rfl rfl rfl rfl ?_ -- t34
              refine WD.one 26 (by kernel_rfl) ?_
              refine WO.off rfl rfl rfl rfl rfl rfl rfl ?_ -- t31
              refine WD.takeOff 27 rfl (by kernel_rfl) (by kernel_rfl) (by kernel_rfl) rfl rfl rfl rfl rfl rfl ?_ -- t32
              refine WD.one 30 (by kernel_rfl) ?_
              refine WO.off rfl rfl rfl rfl rfl rfl rfl ?_ -- t35
              refine WD.takeOff 31 rfl (by kernel_rfl) (by kernel_rfl) (by kernel_rfl) rfl rfl rfl rfl rfl rfl ?_ -- t36
              refine WD.takeOff 32 rfl (by kernel_rfl) (by kernel_rfl) (by kernel_rfl) rfl rfl rfl rfl rfl rfl ?_ -- t37
              refine WD.takeOff 33 rfl (by kernel_rfl) (by kernel_rfl) (by kernel_rfl) rfl rfl rfl rfl rfl rfl ?_ -- t38
              refine WD.take 34 rfl (by kernel_rfl) (by kernel_rfl) (by kernel_rfl) rfl rfl (Yl.pickF rfl rfl) rfl ?_ -- t39
              refine WD.take 35 rfl (by kernel_rfl) (by kernel_rfl) (by kernel_rfl) rfl rfl (Yl.assign rfl) rfl ?_ -- t4
              refine WD.done (by kernel_rfl) ?_
              refine WC.ret ?_
              repeat (first | (with_reducible refine peelT ?_) | (with_reducible refine peelB ?_) | (with_reducible refine peelTX ?_) | (with_reducible refine peelBX ?_) | (with_reducible refine peelBN ?_) | (with_reducible refine peelBO rfl ?_))
              first
              | exact ret1 (.inr rfl) Try.results19 rfl fun w' h => ⟨(), trivial, by unfold folF; rw [g7, g11, g20, g28, fol_len (r := r) (q := q)]; rfl, h.sub (by repeat (first | exact TakeL.nil | (apply TakeL.cons; · repeat (first | exact Take1.head | apply Take1.tail))))⟩
              | exact ret1 (.inr rfl) Try.results19 rfl fun w' h => ⟨(), trivial, by unfold folF; rw [g28]; simp, h.sub (by repeat (first | exact TakeL.nil | (apply TakeL.cons; · repeat (first | exact Take1.head | apply Take1.tail))))⟩
              | exact ret1 (.inr rfl) Try.results19 rfl fun w' h => ⟨(), trivial, by unfold folF; rw [g20]; simp, h.sub (by repeat (first | exact TakeL.nil | (apply TakeL.cons; · repeat (first | exact Take1.head | apply Take1.tail))))⟩
              | exact ret1 (.inr rfl) Try.results19 rfl fun w' h => ⟨(), trivial, by unfold folF; rw [g11]; simp, h.sub (by repeat (first | exact TakeL.nil | (apply TakeL.cons; · repeat (first | exact Take1.head | apply Take1.tail))))⟩
              | exact ret1 (.inr rfl) Try.results19 rfl fun w' h => ⟨(), trivial, by unfold folF; rw [g7]; rfl, h.sub (by repeat (first | exact TakeL.nil | (apply TakeL.cons; · repeat (first | exact Take1.head | apply Take1.tail))))⟩
          · refine WD.takeOff 16 rfl (by kernel_rfl) (by kernel_rfl) (by kernel_rfl) rfl rfl rfl rfl rfl rfl ?_ -- t21
            refine WD.takeOff 17 rfl (by kernel_rfl) (by kernel_rfl) (by kernel_rfl) rfl rfl rfl rfl rfl rfl ?_ -- t22
            refine WD.takeOff 18 rfl (by kernel_rfl) (by kernel_rfl) (by kernel_rfl) rfl rfl rfl rfl rfl rfl ?_ -- t23
            refine WD.takeOff 19 rfl (by kernel_rfl) (by kernel_rfl) (by kernel_rfl) rfl rfl rfl rfl rfl rfl ?_ -- t24
            refine WD.takeOff 20 rfl (by kernel_rfl) (by kernel_rfl) (by kernel_rfl) rfl rfl rfl rfl rfl rfl ?_ -- t25
            refine WD.takeOff 21 rfl (by kernel_rfl) (by kernel_rfl) (by kernel_rfl) rfl rfl rfl rfl rfl rfl ?_ -- t26
            refine WD.take 22 rfl (by kernel_rfl) (by kernel_rfl) (by kernel_rfl) rfl rfl (Yl.pickF rfl rfl) rfl ?_ -- t27
            refine WD.take 23 rfl (by kernel_rfl) (by kernel_rfl) (by kernel_rfl) rfl rfl (Yl.move rfl) rfl ?_ -- t28
            refine WD.takeOff 24 rfl (by kernel_rfl) (by kernel_rfl) (by kernel_rfl) rfl rfl rfl rfl rfl rfl ?_ -- t29
            refine WD.takeOff 25 rfl (by kernel_rfl) (by kernel_rfl) (by kernel_rfl) rfl rfl rfl rfl rfl rfl ?_ -- t30
            refine WD.takeOff 28 rfl (by kernel_rfl) (by kernel_rfl) (by kernel_rfl) rfl rfl rfl rfl rfl rfl ?_ -- t33
            refine WD.takeOff 29 rfl (by kernel_rfl) (by kernel_rfl) (by kernel_rfl) rfl rfl rfl rfl rfl rfl ?_ -- t34
            refine WD.one 26 (by kernel_rfl) ?_
            refine WO.off rfl rfl rfl rfl rfl rfl rfl ?_ -- t31
            refine WD.takeOff 27 rfl (by kernel_rfl) (by kernel_rfl) (by kernel_rfl) rfl rfl rfl rfl rfl rfl ?_ -- t32
            refine WD.one 30 (by kernel_rfl) ?_
            refine WO.off rfl rfl rfl rfl rfl rfl rfl ?_ -- t35
            refine WD.takeOff 31 rfl (by kernel_rfl) (by kernel_rfl) (by kernel_rfl) rfl rfl rfl rfl rfl rfl ?_ -- t36
            refine WD.takeOff 32 rfl (by kernel_rfl) (by kernel_rfl) (by kernel_rfl) rfl rfl rfl rfl rfl rfl ?_ -- t37
            refine WD.takeOff 33 rfl (by kernel_rfl) (by kernel_rfl) (by kernel_rfl) rfl rfl rfl rfl rfl rfl ?_ -- t38
            refine WD.take 34 rfl (by kernel_rfl) (by kernel_rfl) (by kernel_rfl) rfl rfl (Yl.pickF rfl rfl) rfl ?_ -- t39
            refine WD.take 35 rfl (by kernel_rfl) (by kernel_rfl) (by kernel_rfl) rfl rfl (Yl.assign rfl) rfl ?_ -- t4
            refine WD.done (by kernel_rfl) ?_
            refine WC.ret ?_
            repeat (first | (with_reducible refine peelT ?_) | (with_reducible refine peelB ?_) | (with_reducible refine peelTX ?_) | (with_reducible refine peelBX ?_) | (with_reducible refine peelBN ?_) | (with_reducible refine peelBO rfl ?_))
            first
            | exact ret1 (.inr rfl) Try.results19 rfl fun w' h => ⟨(), trivial, by unfold folF; rw [g7, g11, g20, g28, fol_len (r := r) (q := q)]; rfl, h.sub (by repeat (first | exact TakeL.nil | (apply TakeL.cons; · repeat (first | exact Take1.head | apply Take1.tail))))⟩
            | exact ret1 (.inr rfl) Try.results19 rfl fun w' h => ⟨(), trivial, by unfold folF; rw [g28]; simp, h.sub (by repeat (first | exact TakeL.nil | (apply TakeL.cons; · repeat (first | exact Take1.head | apply Take1.tail))))⟩
            | exact ret1 (.inr rfl) Try.results19 rfl fun w' h => ⟨(), trivial, by unfold folF; rw [g20]; simp, h.sub (by repeat (first | exact TakeL.nil | (apply TakeL.cons; · repeat (first | exact Take1.head | apply Take1.tail))))⟩
            | exact ret1 (.inr rfl) Try.results19 rfl fun w' h => ⟨(), trivial, by unfold folF; rw [g11]; simp, h.sub (by repeat (first | exact TakeL.nil | (apply TakeL.cons; · repeat (first | exact Take1.head | apply Take1.tail))))⟩
            | exact ret1 (.inr rfl) Try.results19 rfl fun w' h => ⟨(), trivial, by unfold folF; rw [g7]; rfl, h.sub (by repeat (first | exact TakeL.nil | (apply TakeL.cons; · repeat (first | exact Take1.head | apply Take1.tail))))⟩
    · refine WD.takeOff 7 rfl (by kernel_rfl) (by kernel_rfl) (by kernel_rfl) rfl rfl rfl rfl rfl rfl ?_ -- t12
      refine WD.takeOff 10 rfl (by kernel_rfl) (by kernel_rfl) (by kernel_rfl) rfl rfl rfl rfl rfl rfl ?_ -- t15
      refine WD.one 8 (by kernel_rfl) ?_
      refine WO.off rfl rfl rfl rfl rfl rfl rfl ?_ -- t13
      refine WD.two 9 11 (by kernel_rfl) ?_ ?_
      · refine WO.off rfl rfl rfl rfl rfl rfl rfl ?_ -- t14
        refine WD.one 11 (by kernel_rfl) ?_
        refine WO.off rfl rfl rfl rfl rfl rfl rfl ?_ -- t16
        refine WD.one 12 (by kernel_rfl) ?_
        refine WO.off rfl rfl rfl rfl rfl rfl rfl ?_ -- t17
        refine WD.takeOff 13 rfl (by kernel_rfl) (by kernel_rfl) (by kernel_rfl) rfl rfl rfl rfl rfl rfl ?_ -- t18
        refine WD.take 14 rfl (by kernel_rfl) (by kernel_rfl) (by kernel_rfl) rfl rfl (Yl.pickF rfl rfl) rfl ?_ -- t19
        refine WD.take 15 rfl (by kernel_rfl) (by kernel_rfl) (by kernel_rfl) rfl rfl (Yl.move rfl) rfl ?_ -- t20
        refine WD.takeOff 16 rfl (by kernel_rfl) (by kernel_rfl) (by kernel_rfl) rfl rfl rfl rfl rfl rfl ?_ -- t21
        refine WD.takeOff 17 rfl (by kernel_rfl) (by kernel_rfl) (by kernel_rfl) rfl rfl rfl rfl rfl rfl ?_ -- t22
        refine WD.takeOff 18 rfl (by kernel_rfl) (by kernel_rfl) (by kernel_rfl) rfl rfl rfl rfl rfl rfl ?_ -- t23
        refine WD.takeOff 19 rfl (by kernel_rfl) (by kernel_rfl) (by kernel_rfl) rfl rfl rfl rfl rfl rfl ?_ -- t24
        refine WD.takeOff 20 rfl (by kernel_rfl) (by kernel_rfl) (by kernel_rfl) rfl rfl rfl rfl rfl rfl ?_ -- t25
        refine WD.takeOff 21 rfl (by kernel_rfl) (by kernel_rfl) (by kernel_rfl) rfl rfl rfl rfl rfl rfl ?_ -- t26
        refine WD.take 22 rfl (by kernel_rfl) (by kernel_rfl) (by kernel_rfl) rfl rfl (Yl.pickF rfl rfl) rfl ?_ -- t27
        refine WD.take 23 rfl (by kernel_rfl) (by kernel_rfl) (by kernel_rfl) rfl rfl (Yl.move rfl) rfl ?_ -- t28
        refine WD.takeOff 24 rfl (by kernel_rfl) (by kernel_rfl) (by kernel_rfl) rfl rfl rfl rfl rfl rfl ?_ -- t29
        refine WD.takeOff 25 rfl (by kernel_rfl) (by kernel_rfl) (by kernel_rfl) rfl rfl rfl rfl rfl rfl ?_ -- t30
        refine WD.takeOff 28 rfl (by kernel_rfl) (by kernel_rfl) (by kernel_rfl) rfl rfl rfl rfl rfl rfl ?_ -- t33
        refine WD.takeOff 29 rfl (by kernel_rfl) (by kernel_rfl) (by kernel_rfl) rfl rfl rfl rfl rfl rfl ?_ -- t34
        refine WD.one 26 (by kernel_rfl) ?_
        refine WO.off rfl rfl rfl rfl rfl rfl rfl ?_ -- t31
        refine WD.takeOff 27 rfl (by kernel_rfl) (by kernel_rfl) (by kernel_rfl) rfl rfl rfl rfl rfl rfl ?_ -- t32
        refine WD.one 30 (by kernel_rfl) ?_
        refine WO.off rfl rfl rfl rfl rfl rfl rfl ?_ -- t35
        refine WD.takeOff 31 rfl (by kernel_rfl) (by kernel_rfl) (by kernel_rfl) rfl rfl rfl rfl rfl rfl ?_ -- t36
        refine WD.takeOff 32 rfl (by kernel_rfl) (by kernel_rfl) (by kernel_rfl) rfl rfl rfl rfl rfl rfl ?_ -- t37
        refine WD.takeOff 33 rfl (by kernel_rfl) (by kernel_rfl) (by kernel_rfl) rfl rfl rfl rfl rfl rfl ?_ -- t38
        refine WD.take 34 rfl (by kernel_rfl) (by kernel_rfl) (by kernel_rfl) rfl rfl (Yl.pickF rfl rfl) rfl ?_ -- t39
        refine WD.take 35 rfl (by kernel_rfl) (by kernel_rfl) (by kernel_rfl) rfl rfl (Yl.assign rfl) rfl ?_ -- t4
        refine WD.done (by kernel_rfl) ?_
        refine WC.ret ?_
        repeat (first | (with_reducible refine peelT ?_) | (with_reducible refine peelB ?_) | (with_reducible refine peelTX ?_) | (with_reducible refine peelBX ?_) | (with_reducible refine peelBN ?_) | (with_reducible refine peelBO rfl ?_))
        first
        | exact ret1 (.inr rfl) Try.results19 rfl fun w' h => ⟨(), trivial, by unfold folF; rw [g7, g11, g20, g28, fol_len (r := r) (q := q)]; rfl, h.sub (by repeat (first | exact TakeL.nil | (apply TakeL.cons; · repeat (first | exact Take1.head | apply Take1.tail))))⟩
        | exact ret1 (.inr rfl) Try.results19 rfl fun w' h => ⟨(), trivial, by unfold folF; rw [g28]; simp, h.sub (by repeat (first | exact TakeL.nil | (apply TakeL.cons; · repeat (first | exact Take1.head | apply Take1.tail))))⟩
        | exact ret1 (.inr rfl) Try.results19 rfl fun w' h => ⟨(), trivial, by unfold folF; rw [g20]; simp, h.sub (by repeat (first | exact TakeL.nil | (apply TakeL.cons; · repeat (first | exact Take1.head | apply Take1.tail))))⟩
        | exact ret1 (.inr rfl) Try.results19 rfl fun w' h => ⟨(), trivial, by unfold folF; rw [g11]; simp, h.sub (by repeat (first | exact TakeL.nil | (apply TakeL.cons; · repeat (first | exact Take1.head | apply Take1.tail))))⟩
        | exact ret1 (.inr rfl) Try.results19 rfl fun w' h => ⟨(), trivial, by unfold folF; rw [g7]; rfl, h.sub (by repeat (first | exact TakeL.nil | (apply TakeL.cons; · repeat (first | exact Take1.head | apply Take1.tail))))⟩
      · refine WO.off rfl rfl rfl rfl rfl rfl rfl ?_ -- t16
        refine WD.two 9 12 (by kernel_rfl) ?_ ?_
        · refine WO.off rfl rfl rfl rfl rfl rfl rfl ?_ -- t14
          refine WD.one 12 (by kernel_rfl) ?_
          refine WO.off rfl rfl rfl rfl rfl rfl rfl ?_ -- t17
          refine WD.takeOff 13 rfl (by kernel_rfl) (by kernel_rfl) (by kernel_rfl) rfl rfl rfl rfl rfl rfl ?_ -- t18
          refine WD.take 14 rfl (by kernel_rfl) (by kernel_rfl) (by kernel_rfl) rfl rfl (Yl.pickF rfl rfl) rfl ?_ -- t19
          refine WD.take 15 rfl (by kernel_rfl) (by kernel_rfl) (by kernel_rfl) rfl rfl (Yl.move rfl) rfl ?_ -- t20
          refine WD.takeOff 16 rfl (by kernel_rfl) (by kernel_rfl) (by kernel_rfl) rfl rfl rfl rfl rfl rfl ?_ -- t21
          refine WD.takeOff 17 rfl (by kernel_rfl) (by kernel_rfl) (by kernel_rfl) rfl rfl rfl rfl rfl rfl ?_ -- t22
          refine WD.takeOff 18 rfl (by kernel_rfl) (by kernel_rfl) (by kernel_rfl) rfl rfl rfl rfl rfl rfl ?_ -- t23
          refine WD.takeOff 19 rfl (by kernel_rfl) (by kernel_rfl) (by kernel_rfl) rfl rfl rfl rfl rfl rfl ?_ -- t24
          refine WD.takeOff 20 rfl (by kernel_rfl) (by kernel_rfl) (by kernel_rfl) rfl rfl rfl rfl rfl rfl ?_ -- t25
          refine WD.takeOff 21 rfl (by kernel_rfl) (by kernel_rfl) (by kernel_rfl) rfl rfl rfl rfl rfl rfl ?_ -- t26
          refine WD.take 22 rfl (by kernel_rfl) (by kernel_rfl) (by kernel_rfl) rfl rfl (Yl.pickF rfl rfl) rfl ?_ -- t27
          refine WD.take 23 rfl (by kernel_rfl) (by kernel_rfl) (by kernel_rfl) rfl rfl (Yl.move rfl) rfl ?_ -- t28
          refine WD.takeOff 24 rfl (by kernel_rfl) (by kernel_rfl) (by kernel_rfl) rfl rfl rfl rfl rfl rfl ?_ -- t29
          refine WD.takeOff 25 rfl (by kernel_rfl) (by kernel_rfl) (by kernel_rfl) rfl rfl rfl rfl rfl rfl ?_ -- t30
          refine WD.takeOff 28 rfl (by kernel_rfl) (by kernel_rfl) (by kernel_rfl) rfl rfl rfl rfl rfl rfl ?_ -- t33
          refine WD.takeOff 29 rfl (by kernel_rfl) (by kernel_rfl) (by kernel_rfl) rfl rfl rfl rfl rfl rfl ?_ -- t34
          refine WD.one 26 (by kernel_rfl) ?_
          refine WO.off rfl rfl rfl rfl rfl rfl rfl ?_ -- t31
          refine WD.takeOff 27 rfl (by kernel_rfl) (by kernel_rfl) (by kernel_rfl) rfl rfl rfl rfl rfl rfl ?_ -- t32
          refine WD.one 30 (by kernel_rfl) ?_
          refine WO.off rfl rfl rfl rfl rfl rfl rfl ?_ -- t35
          refine WD.takeOff 31 rfl (by kernel_rfl) (by kernel_rfl) (by kernel_rfl) rfl rfl rfl rfl rfl rfl ?_ -- t36
          refine WD.takeOff 32 rfl (by kernel_rfl) (by kernel_rfl) (by kernel_rfl) rfl rfl rfl rfl rfl rfl ?_ -- t37
          refine WD.takeOff 33 rfl (by kernel_rfl) (by kernel_rfl) (by kernel_rfl) rfl rfl rfl rfl rfl rfl ?_ -- t38
          refine WD.take 34 rfl (by kernel_rfl) (by kernel_rfl) (by kernel_rfl) rfl rfl (Yl.pickF rfl rfl) rfl ?_ -- t39
          refine WD.take 35 rfl (by kernel_rfl) (by kernel_rfl) (by kernel_rfl) rfl rfl (Yl.assign rfl) rfl ?_ -- t4
          refine WD.done (by kernel_rfl) ?_
          refine WC.ret ?_
          repeat (first | (with_reducible refine peelT ?_) | (with_reducible refine peelB ?_) | (with_reducible refine peelTX ?_) | (with_reducible refine peelBX ?_) | (with_reducible refine peelBN ?_) | (with_reducible refine peelBO rfl ?_))
          first
          | exact ret1 (.inr rfl) Try.results19 rfl fun w' h => ⟨(), trivial, by unfold folF; rw [g7, g11, g20, g28, fol_len (r := r) (q := q)]; rfl, h.sub (by repeat (first | exact TakeL.nil | (apply TakeL.cons; · repeat (first | exact Take1.head | apply Take1.tail))))⟩
          | exact ret1 (.inr rfl) Try.results19 rfl fun w' h => ⟨(), trivial, by unfold folF; rw [g28]; simp, h.sub (by repeat (first | exact TakeL.nil | (apply TakeL.cons; · repeat (first | exact Take1.head | apply Take1.tail))))⟩
          | exact ret1 (.inr rfl) Try.results19 rfl fun w' h => ⟨(), trivial, by unfold folF; rw [g20]; simp, h.sub (by repeat (first | exact TakeL.nil | (apply TakeL.cons; · repeat (first | exact Take1.head | apply Take1.tail))))⟩
          | exact ret1 (.inr rfl) Try.results19 rfl fun w' h => ⟨(), trivial, by unfold folF; rw [g11]; simp, h.sub (by repeat (first | exact TakeL.nil | (apply TakeL.cons; · repeat (first | exact Take1.head | apply Take1.tail))))⟩
          | exact ret1 (.inr rfl) Try.results19 rfl fun w' h => ⟨(), trivial, by unfold folF; rw [g7]; rfl, h.sub (by repeat (first | exact TakeL.nil | (apply TakeL.cons; · repeat (first | exact Take1.head | apply Take1.tail))))⟩
        · refine WO.off rfl rfl rfl rfl rfl rfl rfl ?_ -- t17
          refine WD.one 9 (by kernel_rfl) ?_
          refine WO.off rfl rfl rfl rfl rfl rfl rfl ?_ -- t14
          refine WD.takeOff 13 rfl (by kernel_rfl) (by kernel_rfl) (by kernel_rfl) rfl rfl rfl rfl rfl rfl ?_ -- t18
          refine WD.take 14 rfl (by kernel_rfl) (by kernel_rfl) (by kernel_rfl) rfl rfl (Yl.pickF rfl rfl) rfl ?_ -- t19
          refine WD.take 15 rfl (by kernel_rfl) (by kernel_rfl) (by kernel_rfl) rfl rfl (Yl.move rfl) rfl ?_ -- t20
          refine WD.takeOff 16 rfl (by kernel_rfl) (by kernel_rfl) (by kernel_rfl) rfl rfl rfl rfl rfl rfl ?_ -- t21
          refine WD.takeOff 17 rfl (by kernel_rfl) (by kernel_rfl) (by kernel_rfl) rfl rfl rfl rfl rfl rfl ?_ -- t22
          refine WD.takeOff 18 rfl (by kernel_rfl) (by kernel_rfl) (by kernel_rfl) rfl rfl rfl rfl rfl rfl ?_ -- t23
          refine WD.takeOff 19 rfl (by kernel_rfl) (by kernel_rfl) (by kernel_rfl) rfl rfl rfl rfl rfl rfl ?_ -- t24
          refine WD.takeOff 20 rfl (by kernel_rfl) (by kernel_rfl) (by kernel_rfl) rfl rfl rfl rfl rfl rfl ?_ -- t25
          refine WD.takeOff 21 rfl (by kernel_rfl) (by kernel_rfl) (by kernel_rfl) rfl rfl rfl rfl rfl rfl ?_ -- t26
          refine WD.take 22 rfl (by kernel_rfl) (by kernel_rfl) (by kernel_rfl) rfl rfl (Yl.pickF rfl rfl) rfl ?_ -- t27
          refine WD.take 23 rfl (by kernel_rfl) (by kernel_rfl) (by kernel_rfl) rfl rfl (Yl.move rfl) rfl ?_ -- t28
          refine WD.takeOff 24 rfl (by kernel_rfl) (by kernel_rfl) (by kernel_rfl) rfl rfl rfl rfl rfl rfl ?_ -- t29
          refine WD.takeOff 25 rfl (by kernel_rfl) (by kernel_rfl) (by kernel_rfl) rfl rfl rfl rfl rfl rfl ?_ -- t30
          refine WD.takeOff 28 rfl (by kernel_rfl) (by kernel_rfl) (by kernel_rfl) rfl rfl rfl rfl rfl rfl ?_ -- t33
          refine WD.takeOff 29 rfl (by kernel_rfl) (by kernel_rfl) (by kernel_rfl) rfl rfl rfl rfl rfl rfl ?_ -- t34
          refine WD.one 26 (by kernel_rfl) ?_
          refine WO.off rfl rfl rfl rfl rfl rfl rfl ?_ -- t31
          refine WD.takeOff 27 rfl (by kernel_rfl) (by kernel_rfl) (by kernel_rfl) rfl rfl rfl rfl rfl rfl ?_ -- t32
          refine WD.one 30 (by kernel_rfl) ?_
          refine WO.off rfl rfl rfl rfl rfl rfl rfl ?_ -- t35
          refine WD.takeOff 31 rfl (by kernel_rfl) (by kernel_rfl) (by kernel_rfl) rfl rfl rfl rfl rfl rfl ?_ -- t36
          refine WD.takeOff 32 rfl (by kernel_rfl) (by kernel_rfl) (by kernel_rfl) rfl rfl rfl rfl rfl rfl ?_ -- t37
          refine WD.takeOff 33 rfl (by kernel_rfl) (by kernel_rfl) (by kernel_rfl) rfl rfl rfl rfl rfl rfl ?_ -- t38
          refine WD.take 34 rfl (by kernel_rfl) (by kernel_rfl) (by kernel_rfl) rfl rfl (Yl.pickF rfl rfl) rfl ?_ -- t39
          refine WD.take 35 rfl (by kernel_rfl) (by kernel_rfl) (by kernel_rfl) rfl rfl (Yl.assign rfl) rfl ?_ -- t4
          refine WD.done (by kernel_rfl) ?_
          refine WC.ret ?_
          repeat (first | (with_reducible refine peelT ?_) | (with_reducible refine peelB ?_) | (with_reducible refine peelTX ?_) | (with_reducible refine peelBX ?_) | (with_reducible refine peelBN ?_) | (with_reducible refine peelBO rfl ?_))
          first
          | exact ret1 (.inr rfl) Try.results19 rfl fun w' h => ⟨(), trivial, by unfold folF; rw [g7, g11, g20, g28, fol_len (r := r) (q := q)]; rfl, h.sub (by repeat (first | exact TakeL.nil | (apply TakeL.cons; · repeat (first | exact Take1.head | apply Take1.tail))))⟩
          | exact ret1 (.inr rfl) Try.results19 rfl fun w' h => ⟨(), trivial, by unfold folF; rw [g28]; simp, h.sub (by repeat (first | exact TakeL.nil | (apply TakeL.cons; · repeat (first | exact Take1.head | apply Take1.tail))))⟩
          | exact ret1 (.inr rfl) Try.results19 rfl fun w' h => ⟨(), trivial, by unfold folF; rw [g20]; simp, h.sub (by repeat (first | exact TakeL.nil | (apply TakeL.cons; · repeat (first | exact Take1.head | apply Take1.tail))))⟩
          | exact ret1 (.inr rfl) Try.results19 rfl fun w' h => ⟨(), trivial, by unfold folF; rw [g11]; simp, h.sub (by repeat (first | exact TakeL.nil | (apply TakeL.cons; · repeat (first | exact Take1.head | apply Take1.tail))))⟩
          | exact ret1 (.inr rfl) Try.results19 rfl fun w' h => ⟨(), trivial, by unfold folF; rw [g7]; rfl, h.sub (by repeat (first | exact TakeL.nil | (apply TakeL.cons; · repeat (first | exact Take1.head | apply Take1.tail))))⟩
  · refine WD.takeOff 3 rfl (by kernel_rfl) (by kernel_rfl) (by kernel_rfl) rfl rfl rfl rfl rfl rfl ?_ -- t8
    refine WD.one 4 (by kernel_rfl) ?_
    refine WO.off rfl rfl rfl rfl rfl rfl rfl ?_ -- t9
    refine WD.take 5 rfl (by kernel_rfl) (by kernel_rfl) (by kernel_rfl) rfl rfl (Yl.pickF rfl rfl) rfl ?_ -- t10
    refine WD.take 6 rfl (by kernel_rfl) (by kernel_rfl) (by kernel_rfl) rfl rfl (Yl.move rfl) rfl ?_ -- t11
    refine WD.takeOff 7 rfl (by kernel_rfl) (by kernel_rfl) (by kernel_rfl) rfl rfl rfl rfl rfl rfl ?_ -- t12
    refine WD.takeOff 10 rfl (by kernel_rfl) (by kernel_rfl) (by kernel_rfl) rfl rfl rfl rfl rfl rfl ?_ -- t15
    refine WD.one 8 (by kernel_rfl) ?_
    refine WO.off rfl rfl rfl rfl rfl rfl rfl ?_ -- t13
    refine WD.two 9 11 (by kernel_rfl) ?_ ?_
    · refine WO.off rfl rfl rfl rfl rfl rfl rfl ?_ -- t14
      refine WD.one 11 (by kernel_rfl) ?_
      refine WO.off rfl rfl rfl rfl rfl rfl rfl ?_ -- t16
      refine WD.one 12 (by kernel_rfl) ?_
      refine WO.off rfl rfl rfl rfl rfl rfl rfl ?_ -- t17
      refine WD.takeOff 13 rfl (by kernel_rfl) (by kernel_rfl) (by kernel_rfl) rfl rfl rfl rfl rfl rfl ?_ -- t18
      refine WD.take 14 rfl (by kernel_rfl) (by kernel_rfl) (by kernel_rfl) rfl rfl (Yl.pickF rfl rfl) rfl ?_ -- t19
      refine WD.take 15 rfl (by kernel_rfl) (by kernel_rfl) (by kernel_rfl) rfl rfl (Yl.move rfl) rfl ?_ -- t20
      refine WD.takeOff 16 rfl (by kernel_rfl) (by kernel_rfl) (by kernel_rfl) rfl rfl rfl rfl rfl rfl ?_ -- t21
      refine WD.takeOff 17 rfl (by kernel_rfl) (by kernel_rfl) (by kernel_rfl) rfl rfl rfl rfl rfl rfl ?_ -- t22
      refine WD.takeOff 18 rfl (by kernel_rfl) (by kernel_rfl) (by kernel_rfl) rfl rfl rfl rfl rfl rfl ?_ -- t23
      refine WD.takeOff 19 rfl (by kernel_rfl) (by kernel_rfl) (by kernel_rfl) rfl rfl rfl rfl rfl rfl ?_ -- t24
      refine WD.takeOff 20 rfl (by kernel_rfl) (by kernel_rfl) (by kernel_rfl) rfl rfl rfl rfl rfl rfl ?_ -- t25
      refine WD.takeOff 21 rfl (by kernel_rfl) (by kernel_rfl) (by kernel_rfl) rfl rfl rfl rfl rfl rfl ?_ -- t26
      refine WD.take 22 rfl (by kernel_rfl) (by kernel_rfl) (by kernel_rfl) rfl rfl (Yl.pickF rfl rfl) rfl ?_ -- t27
      refine WD.take 23 rfl (by kernel_rfl) (by kernel_rfl) (by kernel_rfl) rfl rfl (Yl.move rfl) rfl ?_ -- t28
      refine WD.takeOff 24 rfl (by kernel_rfl) (by kernel_rfl) (by kernel_rfl) rfl rfl rfl rfl rfl rfl ?_ -- t29
      refine WD.takeOff 25 rfl (by kernel_rfl) (by kernel_rfl) (by kernel_rfl) rfl rfl rfl rfl rfl rfl ?_ -- t30
      refine WD.takeOff 28 rfl (by kernel_rfl) (by kernel_rfl) (by kernel_rfl) rfl rfl rfl rfl rfl rfl ?_ -- t33
      refine WD.takeOff 29 rfl (by kernel_rfl) (by kernel_rfl) (by kernel_rfl) rfl rfl rfl rfl rfl rfl ?_ -- t34
      refine WD.one 26 (by kernel_rfl) ?_
      refine WO.off rfl rfl rfl rfl rfl rfl rfl ?_ -- t31
      refine WD.takeOff 27 rfl (by kernel_rfl) (by kernel_rfl) (by kernel_rfl) rfl rfl rfl rfl rfl rfl ?_ -- t32
      refine WD.one 30 (by kernel_rfl) ?_
      refine WO.off rfl rfl rfl rfl rfl rfl rfl ?_ -- t35
      refine WD.takeOff 31 rfl (by kernel_rfl) (by kernel_rfl) (by kernel_rfl) rfl rfl rfl rfl rfl rfl ?_ -- t36
      refine WD.takeOff 32 rfl (by kernel_rfl) (by kernel_rfl) (by kernel_rfl) rfl rfl rfl rfl rfl rfl ?_ -- t37
      refine WD.takeOff 33 rfl (by kernel_rfl) (by kernel_rfl) (by kernel_rfl) rfl rfl rfl rfl rfl rfl ?_ -- t38
      refine WD.take 34 rfl (by kernel_rfl) (by kernel_rfl) (by kernel_rfl) rfl rfl (Yl.pickF rfl rfl) rfl ?_ -- t39
      refine WD.take 35 rfl (by kernel_rfl) (by kernel_rfl) (by kernel_rfl) rfl rfl (Yl.assign rfl) rfl ?_ -- t4
      refine WD.done (by kernel_rfl) ?_
      refine WC.ret ?_
      repeat (first | (with_reducible refine peelT ?_) | (with_reducible refine peelB ?_) | (with_reducible refine peelTX ?_) | (with_reducible refine peelBX ?_) | (with_reducible refine peelBN ?_) | (with_reducible refine peelBO rfl ?_))
      first
      | exact ret1 (.inr rfl) Try.results19 rfl fun w' h => ⟨(), trivial, by unfold folF; rw [g7, g11, g20, g28, fol_len (r := r) (q := q)]; rfl, h.sub (by repeat (first | exact TakeL.nil | (apply TakeL.cons; · repeat (first | exact Take1.head | apply Take1.tail))))⟩
      | exact ret1 (.inr rfl) Try.results19 rfl fun w' h => ⟨(), trivial, by unfold folF; rw [g28]; simp, h.sub (by repeat (first | exact TakeL.nil | (apply TakeL.cons; · repeat (first | exact Take1.head | apply Take1.tail))))⟩
      | exact ret1 (.inr rfl) Try.results19 rfl fun w' h => ⟨(), trivial, by unfold folF; rw [g20]; simp, h.sub (by repeat (first | exact TakeL.nil | (apply TakeL.cons; · repeat (first | exact Take1.head | apply Take1.tail))))⟩
      | exact ret1 (.inr rfl) Try.results19 rfl fun w' h => ⟨(), trivial, by unfold folF; rw [g11]; simp, h.sub (by repeat (first | exact TakeL.nil | (apply TakeL.cons; · repeat (first | exact Take1.head | apply Take1.tail))))⟩
      | exact ret1 (.inr rfl) Try.results19 rfl fun w' h => ⟨(), trivial, by unfold folF; rw [g7]; rfl, h.sub (by repeat (first | exact TakeL.nil | (apply TakeL.cons; · repeat (first | exact Take1.head | apply Take1.tail))))⟩
    · refine WO.off rfl rfl rfl rfl rfl rfl rfl ?_ -- t16
      refine WD.two 9 12 (by kernel_rfl) ?_ ?_
      · refine WO.off rfl rfl rfl rfl rfl rfl rfl ?_ -- t14
        refine WD.one 12 (by kernel_rfl) ?_
        refine WO.off rfl rfl rfl rfl rfl rfl rfl ?_ -- t17
        refine WD.takeOff 13 rfl (by kernel_rfl) (by kernel_rfl) (by kernel_rfl) rfl rfl rfl rfl rfl rfl ?_ -- t18
        refine WD.take 14 rfl (by kernel_rfl) (by kernel_rfl) (by kernel_rfl) rfl rfl (Yl.pickF rfl rfl) rfl ?_ -- t19
        refine WD.take 15 rfl (by kernel_rfl) (by kernel_rfl) (by kernel_rfl) rfl rfl (Yl.move rfl) rfl ?_ -- t20
        refine WD.takeOff 16 rfl (by kernel_rfl) (by kernel_rfl) (by kernel_rfl) rfl rfl rfl rfl rfl rfl ?_ -- t21
        refine WD.takeOff 17 rfl (by kernel_rfl) (by kernel_rfl) (by kernel_rfl) rfl rfl rfl rfl rfl rfl ?_ -- t22
        refine WD.takeOff 18 rfl (by kernel_rfl) (by kernel_rfl) (by kernel_rfl) rfl rfl rfl rfl rfl rfl ?_ -- t23
        refine WD.takeOff 19 rfl (by kernel_rfl) (by kernel_rfl) (by kernel_rfl) rfl rfl rfl rfl rfl rfl ?_ -- t24
        refine WD.takeOff 20 rfl (by kernel_rfl) (by kernel_rfl) (by kernel_rfl) rfl rfl rfl rfl rfl rfl ?_ -- t25
        refine WD.takeOff 21 rfl (by kernel_rfl) (by kernel_rfl) (by kernel_rfl) rfl rfl rfl rfl rfl rfl ?_ -- t26
        refine WD.take 22 rfl (by kernel_rfl) (by kernel_rfl) (by kernel_rfl) rfl rfl (Yl.pickF rfl rfl) rfl ?_ -- t27
        refine WD.take 23 rfl (by kernel_rfl) (by kernel_rfl) (by kernel_rfl) rfl rfl (Yl.move rfl) rfl ?_ -- t28
        refine WD.takeOff 24 rfl (by kernel_rfl) (by kernel_rfl) (by kernel_rfl) rfl rfl rfl rfl rfl rfl ?_ -- t29
        refine WD.takeOff 25 rfl (by kernel_rfl) (by kernel_rfl) (by kernel_rfl) rfl rfl rfl rfl rfl rfl ?_ -- t30
        refine WD.takeOff 28 rfl (by kernel_rfl) (by kernel_rfl) (by kernel_rfl) rfl rfl rfl rfl rfl rfl ?_ -- t33
        refine WD.takeOff 29 rfl (by kernel_rfl) (by kernel_rfl) (by kernel_rfl) rfl rfl rfl rfl rfl rfl ?_ -- t34
        refine WD.one 26 (by kernel_rfl) ?_
        refine WO.off rfl rfl rfl rfl rfl rfl rfl ?_ -- t31
        refine WD.takeOff 27 rfl (by kernel_rfl) (by kernel_rfl) (by kernel_rfl) rfl rfl rfl rfl rfl rfl ?_ -- t32
        refine WD.one 30 (by kernel_rfl) ?_
        refine WO.off rfl rfl rfl rfl rfl rfl rfl ?_ -- t35
        refine WD.takeOff 31 rfl (by kernel_rfl) (by kernel_rfl) (by kernel_rfl) rfl rfl rfl rfl rfl rfl ?_ -- t36
        refine WD.takeOff 32 rfl (by kernel_rfl) (by kernel_rfl) (by kernel_rfl) rfl rfl rfl rfl rfl rfl ?_ -- t37
        refine WD.takeOff 33 rfl (by kernel_rfl) (by kernel_rfl) (by kernel_rfl) rfl rfl rfl rfl rfl rfl ?_ -- t38
        refine WD.take 34 rfl (by kernel_rfl) (by kernel_rfl) (by kernel_rfl) rfl rfl (Yl.pickF rfl rfl) rfl ?_ -- t39
        refine WD.take 35 rfl (by kernel_rfl) (by kernel_rfl) (by kernel_rfl) rfl rfl (Yl.assign rfl) rfl ?_ -- t4
        refine WD.done (by kernel_rfl) ?_
        refine WC.ret ?_
        repeat (first | (with_reducible refine peelT ?_) | (with_reducible refine peelB ?_) | (with_reducible refine peelTX ?_) | (with_reducible refine peelBX ?_) | (with_reducible refine peelBN ?_) | (with_reducible refine peelBO rfl ?_))
        first
        | exact ret1 (.inr rfl) Try.results19 rfl fun w' h => ⟨(), trivial, by unfold folF; rw [g7, g11, g20, g28, fol_len (r := r) (q := q)]; rfl, h.sub (by repeat (first | exact TakeL.nil | (apply TakeL.cons; · repeat (first | exact Take1.head | apply Take1.tail))))⟩
        | exact ret1 (.inr rfl) Try.results19 rfl fun w' h => ⟨(), trivial, by unfold folF; rw [g28]; simp, h.sub (by repeat (first | exact TakeL.nil | (apply TakeL.cons; · repeat (first | exact Take1.head | apply Take1.tail))))⟩
        | exact ret1 (.inr rfl) Try.results19 rfl fun w' h => ⟨(), trivial, by unfold folF; rw [g20]; simp, h.sub (by repeat (first | exact TakeL.nil | (apply TakeL.cons; · repeat (first | exact Take1.head | apply Take1.tail))))⟩
        | exact ret1 (.inr rfl) Try.results19 rfl fun w' h => ⟨(), trivial, by unfold folF; rw [g11]; simp, h.sub (by repeat (first | exact TakeL.nil | (apply TakeL.cons; · repeat (first | exact Take1.head | apply Take1.tail))))⟩
        | exact ret1 (.inr rfl) Try.results19 rfl fun w' h => ⟨(), trivial, by unfold folF; rw [g7]; rfl, h.sub (by repeat (first | exact TakeL.nil | (apply TakeL.cons; · repeat (first | exact Take1.head | apply Take1.tail))))⟩
      · refine WO.off rfl rfl rfl rfl rfl rfl rfl ?_ -- t17
        refine WD.one 9 (by kernel_rfl) ?_
        refine WO.off rfl rfl rfl rfl rfl rfl rfl ?_ -- t14
        refine WD.takeOff 13 rfl (by kernel_rfl) (by kernel_rfl) (by kernel_rfl) rfl rfl rfl rfl rfl rfl ?_ -- t18
        refine WD.take 14 rfl (by kernel_rfl) (by kernel_rfl) (by kernel_rfl) rfl rfl (Yl.pickF rfl rfl) rfl ?_ -- t19
        refine WD.take 15 rfl (by kernel_rfl) (by kernel_rfl) (by kernel_rfl) rfl rfl (Yl.move rfl) rfl ?_ -- t20
        refine WD.takeOff 16 rfl (by kernel_rfl) (by kernel_rfl) (by kernel_rfl) rfl rfl rfl rfl rfl rfl ?_ -- t21
        refine WD.takeOff 17 rfl (by kernel_rfl) (by kernel_rfl) (by kernel_rfl) rfl rfl rfl rfl rfl rfl ?_ -- t22
        refine WD.takeOff 18 rfl (by kernel_rfl) (by kernel_rfl) (by kernel_rfl) rfl rfl rfl rfl rfl rfl ?_ -- t23
        refine WD.takeOff 19 rfl (by kernel_rfl) (by kernel_rfl) (by kernel_rfl) rfl rfl rfl rfl rfl rfl ?_ -- t24
        refine WD.takeOff 20 rfl (by kernel_rfl) (by kernel_rfl) (by kernel_rfl) rfl rfl rfl rfl rfl rfl ?_ -- t25
        refine WD.takeOff 21 rfl (by kernel_rfl) (by kernel_rfl) (by kernel_rfl) rfl rfl rfl rfl rfl rfl ?_ -- t26
        refine WD.take 22 rfl (by kernel_rfl) (by kernel_rfl) (by kernel_rfl) rfl rfl (Yl.pickF rfl rfl) rfl ?_ -- t27
        refine WD.take 23 rfl (by kernel_rfl) (by kernel_rfl) (by kernel_rfl) rfl rfl (Yl.move rfl) rfl ?_ -- t28
        refine WD.takeOff 24 rfl (by kernel_rfl) (by kernel_rfl) (by kernel_rfl) rfl rfl rfl rfl rfl rfl ?_ -- t29
        refine WD.takeOff 25 rfl (by kernel_rfl) (by kernel_rfl) (by kernel_rfl) rfl rfl rfl rfl rfl rfl ?_ -- t30
        refine WD.takeOff 28 rfl (by kernel_rfl) (by kernel_rfl) (by kernel_rfl) rfl rfl rfl rfl rfl rfl ?_ -- t33
        refine WD.takeOff 29 rfl (by kernel_rfl) (by kernel_rfl) (by kernel_rfl) rfl rfl rfl rfl rfl rfl ?_ -- t34
        refine WD.one 26 (by kernel_rfl) ?_
        refine WO.off rfl rfl rfl rfl rfl rfl rfl ?_ -- t31
        refine WD.takeOff 27 rfl (by kernel_rfl) (by kernel_rfl) (by kernel_rfl) rfl rfl rfl rfl rfl rfl ?_ -- t32
        refine WD.one 30 (by kernel_rfl) ?_
        refine WO.off rfl rfl rfl rfl rfl rfl rfl ?_ -- t35
        refine WD.takeOff 31 rfl (by kernel_rfl) (by kernel_rfl) (by kernel_rfl) rfl rfl rfl rfl rfl rfl ?_ -- t36
        refine WD.takeOff 32 rfl (by kernel_rfl) (by kernel_rfl) (by kernel_rfl) rfl rfl rfl rfl rfl rfl ?_ -- t37
        refine WD.takeOff 33 rfl (by kernel_rfl) (by kernel_rfl) (by kernel_rfl) rfl rfl rfl rfl rfl rfl ?_ -- t38
        refine WD.take 34 rfl (by kernel_rfl) (by kernel_rfl) (by kernel_rfl) rfl rfl (Yl.pickF rfl rfl) rfl ?_ -- t39
        refine WD.take 35 rfl (by kernel_rfl) (by kernel_rfl) (by kernel_rfl) rfl rfl (Yl.assign rfl) rfl ?_ -- t4
        refine WD.done (by kernel_rfl) ?_
        refine WC.ret ?_
        repeat (first | (with_reducible refine peelT ?_) | (with_reducible refine peelB ?_) | (with_reducible refine peelTX ?_) | (with_reducible refine peelBX ?_) | (with_reducible refine peelBN ?_) | (with_reducible refine peelBO rfl ?_))
        first
        | exact ret1 (.inr rfl) Try.results19 rfl fun w' h => ⟨(), trivial, by unfold folF; rw [g7, g11, g20, g28, fol_len (r := r) (q := q)]; rfl, h.sub (by repeat (first | exact TakeL.nil | (apply TakeL.cons; · repeat (first | exact Take1.head | apply Take1.tail))))⟩
        | exact ret1 (.inr rfl) Try.results19 rfl fun w' h => ⟨(), trivial, by unfold folF; rw [g28]; simp, h.sub (by repeat (first | exact TakeL.nil | (apply TakeL.cons; · repeat (first | exact Take1.head | apply Take1.tail))))⟩
        | exact ret1 (.inr rfl) Try.results19 rfl fun w' h => ⟨(), trivial, by unfold folF; rw [g20]; simp, h.sub (by repeat (first | exact TakeL.nil | (apply TakeL.cons; · repeat (first | exact Take1.head | apply Take1.tail))))⟩
        | exact ret1 (.inr rfl) Try.results19 rfl fun w' h => ⟨(), trivial, by unfold folF; rw [g11]; simp, h.sub (by repeat (first | exact TakeL.nil | (apply TakeL.cons; · repeat (first | exact Take1.head | apply Take1.tail))))⟩
        | exact ret1 (.inr rfl) Try.results19 rfl fun w' h => ⟨(), trivial, by unfold folF; rw [g7]; rfl, h.sub (by repeat (first | exact TakeL.nil | (apply TakeL.cons; · repeat (first | exact Take1.head | apply Take1.tail))))⟩
end Go.Proofs.Ytfdnnlcfolgegaa

namespace Go.Proofs.Ytfdnnlcfolgegaa
open Go Go.RowKit

def endF (e : Int) (k : Nat) : List Int := (List.range 8).map fun j => if 8 ≤ j + k then e / 2 ^ (8 * (8 - 1 - j)) % 256 else 0
theorem endF_len (e : Int) (k : Nat) : (endF e k).length = 8 := by simp [endF]
theorem endF_step (e : Int) {k : Nat} (h : k < 8) : (endF e k).set (7 - k) (e / 2 ^ (8 * k) % 256) = endF e (k + 1) := by
  apply List.ext_getElem?
  intro i
  rw [List.getElem?_set, endF_len]
  unfold endF
  by_cases hi : i < 8
  · rw [List.getElem?_map, List.getElem?_map, List.getElem?_range hi]
    simp only [Option.map_some]
    by_cases e1 : 7 - k = i
    · rw [if_pos e1, if_pos (by omega), if_pos (by omega)]
      rw [show 8 - 1 - i = k by omega]
    · rw [if_neg e1]
      by_cases e2 : 8 ≤ i + k
      · rw [if_pos e2, if_pos (by omega)]
      · rw [if_neg e2, if_neg (by omega)]
  · rw [if_neg (by omega), List.getElem?_eq_none_iff.2 (by simp; omega), List.getElem?_eq_none_iff.2 (by simp; omega)]
theorem endF_all (e : Int) : endF e 8 = be e 8 := by
  unfold endF be beK
  refine List.map_congr_left fun j hj => ?_
  rw [if_pos (by omega)]
theorem be2 {n : Nat} (h : n < 65536) : be (n : Int) 2 = [((n / 256 : Nat) : Int), ((n % 256 : Nat) : Int)] := by
  have h1 : (n : Int) / 256 % 256 = ((n / 256 : Nat) : Int) := by omega
  have h2 : (n : Int) % 256 = ((n % 256 : Nat) : Int) := by omega
  show [(n : Int) / 2 ^ (8 * (2 - 1 - 0)) % 256, (n : Int) / 2 ^ (8 * (2 - 1 - 1)) % 256] = _
  simp only [Nat.reduceSub, Nat.reduceMul, Int.reducePow, Int.pow_zero, Int.ediv_one]
  rw [h1, h2]
theorem dv_at0 {ms : List Dv} {j : Nat} {d : Dv} (h : ms[j]? = some d) : (vcs Dv.val ms)[j * 2 + 0]? = some (.int .u8 d.a) ∧ (vcs Dv.val ms)[j * 2 + 1]? = some (.int .u8 d.d) := by
  have := dvV.at dvAll h
  have e : (Dv.val d).cells.toList = [.int .u8 d.a, .int .u8 d.d] := by simp [Dv.val, Dv.cells, Value.cells]
  rw [e] at this
  have h0 := congrArg (fun l => l[0]?) this
  have h1 := congrArg (fun l => l[1]?) this
  simp only [List.getElem?_take, List.getElem?_drop] at h0 h1
  exact ⟨h0, h1⟩
theorem digB_by {r : Rs} {ms : List Dv} (hr : r.ok) (h : DOk ms) : BY (digB r ms) := by
  unfold digB
  have hb : ∀ (n : Int) (m : Nat), ∀ x ∈ be n m, 0 ≤ x ∧ x < 256 := by
    intro n m x hx
    unfold be beK at hx
    obtain ⟨j, _, rfl⟩ := List.mem_map.1 hx
    omega
  intro x hx
  rcases List.mem_append.1 hx with hx | hx
  · rcases List.mem_append.1 hx with hx | hx
    · rcases List.mem_append.1 hx with hx | hx
      · exact hr.b x hx
      · exact hb _ _ x hx
    · exact hb _ _ x hx
  · obtain ⟨l, hl, hx⟩ := List.mem_flatten.1 hx
    obtain ⟨d, hd, rfl⟩ := List.mem_map.1 hl
    have := h d hd
    simp at hx
    rcases hx with rfl | rfl
    · exact this.1
    · exact this.2
set_option maxRecDepth 100000 in
theorem rdigest_any (r : Rs) (ms : List Dv) (hr : r.ok) (ho : DOk ms) (hl : ms.length ≤ 1000) (w : World) (hx : RdS w (fpL []) r.v 2 ms.length (vcs Dv.val ms)) (hw : OK w (fpL []) [] w) :
    Fn Try.prog 22 [.agg r.cells.toArray] [] w (fun _ : Option Addr × Nat => True) (fun y => .slice y.1 32 y.2) (fun y => [ownR (.slice y.1 32 y.2) 5 1 32 (ints .u8 (digF r ms))]) := by
  have hg := hr.len
  obtain ⟨ao, cap, hv, hcap, hml⟩ := hx.rd.form
  have a16 := Rs.at16 hg
  have a17 := Rs.at17 hg
  rw [hv] at a17 hx
  have hdl := digB_len (r := r) (ms := ms) hg
  have hsum : digF r ms = rsumF 32 4 64 4294967296 (digB r ms) := sum256_eq (digB_by hr ho) (by omega)
  have he := hr.e
  refine enterF Try.func22 rfl Try.ntmps22 rfl hw ?_
  refine WC.seq ?_
  refine WC.region ?_
  refine WL.to (To.box (cs := r.cells) rfl rfl) rfl ?_ -- t1
  intro b1
  refine WL.y (Yl.assign rfl) rfl ?_ -- t2
  refine WL.nil ?_
  refine WC.seq ?_
  refine WC.region ?_
  refine WL.y (Yl.loadN ag27 rfl (by repeat (first | exact Take1.head | apply Take1.tail)) (by rw [Rs.len18 hg]; rfl) (show (r.cells.drop 0).take 18 = r.cells by rw [List.drop_zero, List.take_of_length_le (by rw [Rs.len18 hg]; omega)])) rfl ?_ -- t8
  refine WL.callC (xs := [.tmp 8]) (cap := []) rfl rfl en50 (by repeat (first | exact TakeL.nil | (apply TakeL.cons; · repeat (first | exact Take1.head | apply Take1.tail)))) (fun w hw => group_any r hg w hw.left.here) rfl ?_ -- t9 hailer/hailerref23.group
  rintro ⟨y9o, y9c⟩ -
  refine WL.y (Yl.assign rfl) rfl ?_ -- t3
  refine WL.nil ?_
  refine WC.seq ?_
  refine WC.region ?_
  refine WL.to (To.makeSlice (n := 8) un53 zb53_5 rfl rfl rfl (by omega) (by unfold maxLen; omega)) rfl ?_ -- t10
  intro b10
  rw [show List.replicate 8 (Value.int .u8 0) = ints .u8 (endF r.e 0) from rfl]
  refine WL.view (fun w h => h.blkOwn (b := b10) (size := 1) (n := 8) (by repeat (first | exact Take1.head | apply Take1.tail)) (by unfold maxLen; omega) rfl) ?_
  refine WL.y (Yl.assign rfl) rfl ?_ -- t4
  refine WL.nil ?_
  refine WC.seq ?_
  refine WC.region ?_
  refine WL.y (Yl.field fo27_1 rfl) rfl ?_ -- t11
  refine WL.y (Yl.load on24 rfl (by repeat (first | exact Take1.head | apply Take1.tail)) a16) rfl ?_ -- t12
  refine WL.y (Yl.assign rfl) rfl ?_ -- t5
  refine WL.nil ?_
  refine WC.seq ?_
  refine WC.seq ?_
  refine WC.region ?_
  refine WL.y (Yl.assign rfl) rfl ?_ -- t6
  refine WL.nil ?_
  refine WC.block ?_
  refine WC.loop (α := Nat) (fun k => [(1, .pointer (some ⟨b1, 0, none⟩)), (3, .slice y9o 16 y9c), (4, .slice (some ⟨b10, 0, none⟩) 8 8), (5, .int .u64 (r.e / 2 ^ (8 * k))), (6, .int .i64 (7 - (k : Int)))]) (fun k => [blkR b1 27 r.cells, ownR (.slice y9o 16 y9c) 5 1 16 (ints .u8 r.g), ownR (.slice (some ⟨b10, 0, none⟩) 8 8) 5 1 8 (ints .u8 (endF r.e k))]) (fun k => k ≤ 8) (fun k => 8 - k) 0 (Nat.zero_le _) ⟨(by refine Sub.cons rfl (Sub.cons rfl (Sub.cons rfl (Sub.cons ?_ (Sub.cons rfl Sub.nil)))); show some (Value.int .u64 r.e) = some (Value.int .u64 (r.e / 2 ^ (8 * 0))); simp), _, (by repeat (first | exact TakeL.nil | (apply TakeL.cons; · repeat (first | exact Take1.head | apply Take1.tail))))⟩ ?_
  rintro k hk
  refine WC.seq ?_
  refine WC.seq ?_
  refine WC.region ?_
  refine WL.y (Yl.move rfl) rfl ?_ -- t13
  refine WL.y (Yl.geq rfl rfl) rfl ?_ -- t14
  refine WL.nil ?_
  refine WC.condD rfl (fun g14 => ?_) (fun g14 => ?_)
  · refine WC.skip ?_
    refine WC.seq ?_
    refine WC.block ?_
    refine WC.seq ?_
    refine WC.region ?_
    have hk8 : k < 8 := by omega
    have hdv : r.e / 2 ^ (8 * (k + 1)) = r.e / 2 ^ (8 * k) / 256 := by
      rw [show (256 : Int) = 2 ^ 8 from rfl, Int.ediv_ediv_of_nonneg (Int.pow_nonneg (by decide)), ← Int.pow_add, show 8 * k + 8 = 8 * (k + 1) by omega]
    have hst := endF_step r.e hk8
    obtain ⟨n, hn⟩ : ∃ n, r.e / 2 ^ (8 * k) = n := ⟨_, rfl⟩
    have hnn : 0 ≤ n ∧ n < 18446744073709551616 := by
      rw [← hn]
      exact ⟨Int.ediv_nonneg he.1 (Int.pow_nonneg (by decide)), Int.lt_of_le_of_lt (Int.ediv_le_self _ he.1) he.2⟩
    rw [hn] at hdv hst ⊢
    refine WL.y (Yl.move rfl) rfl ?_ -- t17
    refine WL.y (Yl.move rfl) rfl ?_ -- t18
    refine WL.y (Yl.move rfl) rfl ?_ -- t19
    refine WL.y (Yl.rem rfl rfl (by omega) rfl) rfl ?_ -- t20
    refine WL.say (t := 20) (v' := .int .u64 (n % 256)) rfl (by rw [Int.tmod_eq_emod_of_nonneg hnn.1]) ?_
    refine WL.y (Yl.conv un24 un5 rfl (u8_in' _ (by omega))) rfl ?_ -- t21
    refine WL.y (Yl.index un53 sz5 rfl rfl (Reads.of (r := ownR (.slice (some ⟨b10, 0, none⟩) 8 8) 5 1 8 (ints .u8 (endF r.e k))) RdOf.own (by repeat (first | exact Take1.head | apply Take1.tail))) (show (7 - (k : Int)) = ((7 - k : Nat) : Int) by omega) (by omega)) rfl ?_ -- t22
    refine WL.sto (Sto.elem (j := 7 - k) (u := .int .u8 (n % 256)) (v := .slice (some ⟨b10, 0, none⟩) 8 8) (n := 8) (cs := ints .u8 (endF r.e k)) (cs' := ints .u8 (endF r.e (k + 1))) sz5 rfl rfl (by repeat (first | exact Take1.head | apply Take1.tail)) rfl (by omega) (by rw [ints_set, hst])) (fun _ h => nomatch h) ?_
    refine WL.nil ?_
    refine WC.region ?_
    refine WL.y (Yl.move rfl) rfl ?_ -- t23
    refine WL.y (Yl.quo rfl rfl (by omega) rfl) rfl ?_ -- t24
    refine WL.say (t := 24) (v' := .int .u64 (r.e / 2 ^ (8 * (k + 1)))) rfl (by rw [Int.tdiv_eq_ediv_of_nonneg hnn.1, u64_in _ (by omega), hdv]) ?_
    refine WL.y (Yl.assign rfl) rfl ?_ -- t5
    refine WL.nil ?_
    refine WC.region ?_
    refine WL.y (Yl.move rfl) rfl ?_ -- t15
    refine WL.y (Yl.sub rfl rfl (IntWalk.i64_in _ (by omega))) rfl ?_ -- t16
    refine WL.say (t := 16) (v' := .int .i64 (7 - ((k + 1 : Nat) : Int))) rfl (by congr 1; omega) ?_
    refine WL.y (Yl.assign rfl) rfl ?_ -- t6
    refine WL.nil ?_
    exact ⟨rfl, k + 1, by omega, by omega, (by repeat (first | exact Sub.nil | refine Sub.cons rfl ?_)), _, (by repeat (first | exact TakeL.nil | (apply TakeL.cons; · repeat (first | exact Take1.head | apply Take1.tail))))⟩
  · refine WC.exit ?_
    refine WC.seq ?_
    refine WC.region ?_
    obtain rfl : k = 8 := by omega
    rw [endF_all]
    refine WL.y (Yl.move rfl) rfl ?_ -- t25
    refine WL.y (Yl.move rfl) rfl ?_ -- t26
    refine WL.to (To.append sl53 rfl rfl (by repeat (first | exact Take1.head | apply Take1.tail)) (Reads.of (r := ownR (.slice (some ⟨b10, 0, none⟩) 8 8) 5 1 8 (ints .u8 (be r.e 8))) RdOf.own (by repeat (first | exact Take1.head | apply Take1.tail))) (ints_one _ _) rfl (ints_append _ _ _) (by unfold maxLen; omega) (by omega)) rfl ?_ -- t27
    rintro ⟨⟨ao27, c27⟩, hc27⟩
    dsimp only at hc27 ⊢
    refine WL.y (Yl.assign rfl) rfl ?_ -- t3
    refine WL.nil ?_
    refine WC.seq ?_
    refine WC.region ?_
    refine WL.y (Yl.move rfl) rfl ?_ -- t28
    refine WL.y (Yl.field fo27_2 rfl) rfl ?_ -- t29
    refine WL.y (Yl.load on25 rfl (by repeat (first | exact Take1.head | apply Take1.tail)) a17) rfl ?_ -- t30
    refine WL.y (Yl.len un25 rfl) rfl ?_ -- t31
    refine WL.y (Yl.quo rfl rfl (by omega) (i64_quo (by omega) (by omega))) rfl ?_ -- t32
    refine WL.y (Yl.conv un3 un5 rfl (u8_in' _ (by omega))) rfl ?_ -- t33
    refine WL.say (t := 33) (v' := .int .u8 ((ms.length / 256 : Nat) : Int)) rfl (by rw [Int.natCast_ediv]; rfl) ?_
    refine WL.y (Yl.field fo27_2 rfl) rfl ?_ -- t34
    refine WL.y (Yl.load on25 rfl (by repeat (first | exact Take1.head | apply Take1.tail)) a17) rfl ?_ -- t35
    refine WL.y (Yl.len un25 rfl) rfl ?_ -- t36
    refine WL.y (Yl.rem rfl rfl (by omega) (i64_rem (by omega))) rfl ?_ -- t37
    refine WL.y (Yl.conv un3 un5 rfl (u8_in' _ (by omega))) rfl ?_ -- t38
    refine WL.say (t := 38) (v' := .int .u8 ((ms.length % 256 : Nat) : Int)) rfl (by rw [Int.natCast_emod]; rfl) ?_
    refine WL.to (To.buildSlice (vs := [.int .u8 ((ms.length / 256 : Nat) : Int), .int .u8 ((ms.length % 256 : Nat) : Int)]) un53 zs5 rfl rfl (by simp [Value.cells]) (by decide) (by decide)) rfl ?_ -- t39
    intro b39
    refine WL.to (To.append sl53 rfl rfl (by repeat (first | exact Take1.head | apply Take1.tail)) (Reads.of (RdOf.blk (cs := [.int .u8 ((ms.length / 256 : Nat) : Int), .int .u8 ((ms.length % 256 : Nat) : Int)]) (cs' := ints .u8 (be (ms.length : Int) 2)) (Nat.le_refl _) (by unfold maxLen; omega) (by simp) (by rw [be2 (by omega)]; rfl)) (by repeat (first | exact Take1.head | apply Take1.tail))) (ints_one _ _) (show 16 + 8 + 2 = 26 + 2 * 0 from rfl) (show ints .u8 (r.g ++ be r.e 8) ++ ints .u8 (be (ms.length : Int) 2) = ints .u8 (r.g ++ be r.e 8 ++ be ms.length 2 ++ dvB (ms.take 0)) by rw [ints_append]; simp [dvB]) (by unfold maxLen; omega) (by omega)) rfl ?_ -- t40
    rintro ⟨⟨ao40, c40⟩, hc40⟩
    dsimp only at hc40 ⊢
    refine WL.y (Yl.assign rfl) rfl ?_ -- t3
    refine WL.nil ?_
    refine WC.seq ?_
    refine WC.seq ?_
    refine WC.region ?_
    refine WL.y (Yl.assign rfl) rfl ?_ -- t7
    refine WL.nil ?_
    refine WC.block ?_
    refine WC.loop (α := Nat × (Option Addr × Nat)) (fun s => [(1, .pointer (some ⟨b1, 0, none⟩)), (3, .slice s.2.1 (26 + 2 * s.1) s.2.2), (7, .int .i64 (s.1 : Int))]) (fun s => [blkR b1 27 r.cells, ownR (.slice s.2.1 (26 + 2 * s.1) s.2.2) 5 1 (26 + 2 * s.1) (ints .u8 (r.g ++ be r.e 8 ++ be ms.length 2 ++ dvB (ms.take s.1)))]) (fun s => s.1 ≤ ms.length) (fun s => ms.length - s.1) (0, ao40, c40) (Nat.zero_le _) ⟨(by repeat (first | exact Sub.nil | refine Sub.cons rfl ?_)), _, (by repeat (first | exact TakeL.nil | (apply TakeL.cons; · repeat (first | exact Take1.head | apply Take1.tail))))⟩ ?_
    rintro ⟨j, yo, yc⟩ hj
    dsimp only at hj ⊢
    refine WC.seq ?_
    refine WC.seq ?_
    refine WC.region ?_
    refine WL.y (Yl.move rfl) rfl ?_ -- t41
    refine WL.y (Yl.field fo27_2 rfl) rfl ?_ -- t42
    refine WL.y (Yl.load on25 rfl (by repeat (first | exact Take1.head | apply Take1.tail)) a17) rfl ?_ -- t43
    refine WL.y (Yl.len un25 rfl) rfl ?_ -- t44
    refine WL.y (Yl.lss rfl rfl) rfl ?_ -- t45
    refine WL.nil ?_
    refine WC.condD rfl (fun g45 => ?_) (fun g45 => ?_)
    · refine WC.skip ?_
      refine WC.seq ?_
      refine WC.block ?_
      obtain ⟨d, hdd⟩ : ∃ d, ms[j]? = some d := ⟨_, List.getElem?_eq_getElem (by omega)⟩
      obtain ⟨d0', d1'⟩ := dv_at0 hdd
      have hpos : 0 < (vcs Dv.val ms).length := by rw [dv_len]; omega
      refine WC.drawAny (Hs := [blkR b1 27 r.cells]) mixed (by kernel_rfl) ⟨_, (by repeat (first | exact TakeL.nil | (apply TakeL.cons; · repeat (first | exact Take1.head | apply Take1.tail))))⟩ ?_
      refine WD.take 0 rfl (by kernel_rfl) (by kernel_rfl) (by kernel_rfl) rfl rfl (Yl.move rfl) rfl ?_ -- t48
      refine WD.take 1 rfl (by kernel_rfl) (by kernel_rfl) (by kernel_rfl) rfl rfl (Yl.field fo27_2 rfl) rfl ?_ -- t49
      refine WD.take 2 rfl (by kernel_rfl) (by kernel_rfl) (by kernel_rfl) rfl rfl (Yl.load on25 rfl (by repeat (first | exact Take1.head | apply Take1.tail)) a17) rfl ?_ -- t50
      refine WD.take 3 rfl (by kernel_rfl) (by kernel_rfl) (by kernel_rfl) rfl rfl (Yl.move rfl) rfl ?_ -- t51
      refine WD.take 4 rfl (by kernel_rfl) (by kernel_rfl) (by kernel_rfl) rfl rfl (Yl.index un25 sz31 rfl rfl (Reads.s hx) rfl (by omega)) rfl ?_ -- t52
      refine WD.take 5 rfl (by kernel_rfl) (by kernel_rfl) (by kernel_rfl) rfl rfl (Yl.fieldV (v := .slice ao ms.length cap) (k := j * 2) fo31_0 rfl (Reads.s hx) hpos) rfl ?_
      refine WD.take 6 rfl (by kernel_rfl) (by kernel_rfl) (by kernel_rfl) rfl rfl (Yl.loadO (v := .slice ao ms.length cap) (k := j * 2 + 0) on5 rfl (Reads.s hx) d0') rfl ?_
      refine WD.take 7 rfl (by kernel_rfl) (by kernel_rfl) (by kernel_rfl) rfl rfl (Yl.field fo27_2 rfl) rfl ?_ -- t55
      refine WD.take 8 rfl (by kernel_rfl) (by kernel_rfl) (by kernel_rfl) rfl rfl (Yl.load on25 rfl (by repeat (first | exact Take1.head | apply Take1.tail)) a17) rfl ?_ -- t56
      refine WD.take 9 rfl (by kernel_rfl) (by kernel_rfl) (by kernel_rfl) rfl rfl (Yl.move rfl) rfl ?_ -- t57
      refine WD.take 10 rfl (by kernel_rfl) (by kernel_rfl) (by kernel_rfl) rfl rfl (Yl.index un25 sz31 rfl rfl (Reads.s hx) rfl (by omega)) rfl ?_ -- t58
      refine WD.take 11 rfl (by kernel_rfl) (by kernel_rfl) (by kernel_rfl) rfl rfl (Yl.fieldV (v := .slice ao ms.length cap) (k := j * 2) fo31_1 rfl (Reads.s hx) hpos) rfl ?_
      refine WD.take 12 rfl (by kernel_rfl) (by kernel_rfl) (by kernel_rfl) rfl rfl (Yl.loadO (v := .slice ao ms.length cap) (k := j * 2 + 1) on5 rfl (Reads.s hx) d1') rfl ?_
      refine WD.one 13 (by kernel_rfl) ?_
      refine WO.to rfl rfl .no (To.buildSlice (vs := [.int .u8 d.a, .int .u8 d.d]) un53 zs5 rfl rfl (by simp [Value.cells]) (by decide) (by decide)) rfl (fun _ => ⟨_, (by repeat (first | exact TakeL.nil | (apply TakeL.cons; · repeat (first | exact Take1.head | apply Take1.tail))))⟩) ?_ -- t61
      intro b61
      refine WD.one 14 (by kernel_rfl) ?_
      refine WO.to rfl rfl .no (To.append sl53 rfl rfl (by repeat (first | exact Take1.head | apply Take1.tail)) (Reads.of (RdOf.blk (cs := [.int .u8 d.a, .int .u8 d.d]) (cs' := ints .u8 [d.a, d.d]) (Nat.le_refl _) (by unfold maxLen; omega) (by simp) rfl) (by repeat (first | exact Take1.head | apply Take1.tail))) (ints_one _ _) (show 26 + 2 * j + 2 = 26 + 2 * (j + 1) by omega) (by rw [ints_append, List.append_assoc _ (dvB _), ← dvB_snoc, take_snoc _ _ _ hdd]) (by unfold maxLen; omega) (by omega)) rfl (fun _ => ⟨_, (by repeat (first | exact TakeL.nil | (apply TakeL.cons; · repeat (first | exact Take1.head | apply Take1.tail))))⟩) ?_ -- t62
      rintro ⟨⟨ao62, c62⟩, hc62⟩
      dsimp only at hc62 ⊢
      refine WD.take 15 rfl (by kernel_rfl) (by kernel_rfl) (by kernel_rfl) rfl rfl (Yl.assign rfl) rfl ?_ -- t3
      refine WD.done (by kernel_rfl) ?_
      refine WC.region ?_
      refine WL.y (Yl.move rfl) rfl ?_ -- t46
      refine WL.y (Yl.add rfl rfl (IntWalk.i64_in _ (by omega))) rfl ?_ -- t47
      refine WL.y (Yl.assign rfl) rfl ?_ -- t7
      refine WL.nil ?_
      exact ⟨rfl, (j + 1, ao62, c62), by dsimp only; omega, by dsimp only; omega, (by repeat (first | exact Sub.nil | refine Sub.cons rfl ?_)), _, (by repeat (first | exact TakeL.nil | (apply TakeL.cons; · repeat (first | exact Take1.head | apply Take1.tail))))⟩
    · refine WC.exit ?_
      refine WC.seq ?_
      refine WC.region ?_
      have hjn : j = ms.length := by omega
      subst hjn
      rw [List.take_length, show r.g ++ be r.e 8 ++ be ms.length 2 ++ dvB ms = digB r ms from rfl]
      refine WL.y (Yl.move rfl) rfl ?_ -- t63
      refine WL.callC (xs := [.tmp 63, _]) (cap := []) rfl rfl en51 (by repeat (first | exact TakeL.nil | (apply TakeL.cons; · repeat (first | exact Take1.head | apply Take1.tail)))) (fun w hw => (by have := rsum32_any (digB r ms) (.slice yo (26 + 2 * ms.length) yc) (by omega) w (by rw [hdl]; exact hw.src (A := []) RdOf.own (by repeat (first | exact Take1.head | apply Take1.tail))) hw.left.here; rw [← hsum] at this; exact this)) rfl ?_ -- t64 hailer/hailerref01.Sum
      rintro ⟨y64o, y64c⟩ -
      refine WL.y (Yl.assign rfl) rfl ?_ -- t2
      refine WL.nil ?_
      refine WC.ret ?_
      repeat (first | (with_reducible refine peelT ?_) | (with_reducible refine peelB ?_) | (with_reducible refine peelTX ?_) | (with_reducible refine peelBX ?_) | (with_reducible refine peelBN ?_) | (with_reducible refine peelBO rfl ?_))
      exact ret1 (.inr rfl) Try.results22 rfl fun w' h => ⟨(y64o, y64c), trivial, rfl, h.sub (by repeat (first | exact TakeL.nil | (apply TakeL.cons; · repeat (first | exact Take1.head | apply Take1.tail))))⟩
set_option maxHeartbeats 4000000 in
set_option maxRecDepth 100000 in
theorem rosterTells_any (r q : Rs) (hr : r.ok) (hq : q.ok) (ms ns : List Dv) (h1 : DOk ms) (h2 : DOk ns) (d : Dv) (hd : d.ok) (w : World) (hw : OK w (fpL [rdR r.v 2 ms.length (vcs Dv.val ms), rdR q.v 2 ns.length (vcs Dv.val ns)]) [rdR r.v 2 ms.length (vcs Dv.val ms), rdR q.v 2 ns.length (vcs Dv.val ns)] w) :
    Fn Try.prog 5 [.agg r.cells.toArray, .agg q.cells.toArray, d.val] [rdR r.v 2 ms.length (vcs Dv.val ms), rdR q.v 2 ns.length (vcs Dv.val ns)] w (fun _ : Unit => True) (fun _ => .bool true) (fun _ => []) := by
  have hg := hr.len
  have hg2 := hq.len
  obtain ⟨ao, cap, hv, hcap, hml⟩ := (hw.get .head).form
  obtain ⟨bo, cap2, hv2, hcap2, hml2⟩ := (hw.get (.tail .head)).form
  have a17 := Rs.at17 hg
  have b17 := Rs.at17 hg2
  rw [hv] at a17
  rw [hv2] at b17
  have rall : ∀ {r : Rs}, r.g.length = 16 → (r.cells.drop 0).take 18 = r.cells := fun hg => by rw [List.drop_zero, List.take_of_length_le (by rw [Rs.len18 hg]; omega)]
  have h32 : (ints .u8 (digF r ms)).length = 32 := by rw [ints_length]; unfold digF; rw [sum256_len]
  refine enterF Try.func5 rfl Try.ntmps5 rfl hw ?_
  refine WC.seq ?_
  refine WC.region ?_
  refine WL.to (To.box (cs := r.cells) rfl rfl) rfl ?_ -- t3
  intro b3
  refine WL.to (To.box (cs := q.cells) rfl rfl) rfl ?_ -- t4
  intro b4
  refine WL.to (To.box (cs := d.cells) rfl rfl) rfl ?_ -- t5
  intro b5
  refine WL.y (Yl.assign rfl) rfl ?_ -- t6
  refine WL.nil ?_
  refine WC.seq ?_
  refine WC.seq ?_
  refine WC.region ?_
  refine WL.callC (xs := []) (cap := []) rfl rfl en6 (by repeat (first | exact TakeL.nil | (apply TakeL.cons; · repeat (first | exact Take1.head | apply Take1.tail)))) (fun w hw => known_any w hw.left.here) rfl ?_ -- t10 hailer/hailerlaw23.known
  rintro ⟨⟩ -
  refine WL.y (Yl.not rfl) rfl ?_ -- t11
  refine WL.know (t := 11) (b' := false) rfl (by first | rfl | (simp; done) | (simp; omega)) ?_
  refine WL.nil ?_
  refine WC.condF rfl (by first | rfl | (simp; done) | (simp; omega)) ?_
  refine WC.skip ?_
  refine WC.seq ?_
  refine WC.seq ?_
  refine WC.region ?_
  refine WL.y (Yl.field fo27_2 rfl) rfl ?_ -- t12
  refine WL.y (Yl.load on25 rfl (by repeat (first | exact Take1.head | apply Take1.tail)) a17) rfl ?_ -- t13
  refine WL.y (Yl.len un25 rfl) rfl ?_ -- t14
  refine WL.y (Yl.gtr rfl rfl) rfl ?_ -- t15
  refine WL.y (Yl.move rfl) rfl ?_ -- t16
  refine WL.both (t := 16) rfl (fun g16 => ?_) (fun g16 => ?_)
  · refine WL.off rfl rfl rfl rfl ?_ -- t17
    refine WL.off rfl rfl rfl rfl ?_ -- t18
    refine WL.off rfl rfl rfl rfl ?_ -- t19
    refine WL.off rfl rfl rfl rfl ?_ -- t20
    refine WL.y (Yl.pickT rfl rfl) rfl ?_ -- t21
    refine WL.nil ?_
    refine WC.condT rfl (by first | rfl | (simp; done) | (simp; omega)) ?_
    refine WC.seq ?_
    refine WC.region ?_
    refine WL.y (Yl.assign rfl) rfl ?_ -- t6
    refine WL.nil ?_
    refine WC.ret ?_
    repeat (first | (with_reducible refine peelT ?_) | (with_reducible refine peelB ?_) | (with_reducible refine peelTX ?_) | (with_reducible refine peelBX ?_) | (with_reducible refine peelBN ?_) | (with_reducible refine peelBO rfl ?_))
    exact ret1 (.inr rfl) Try.results5 rfl fun w' h => ⟨(), trivial, rfl, h.sub (by repeat (first | exact TakeL.nil | (apply TakeL.cons; · repeat (first | exact Take1.head | apply Take1.tail))))⟩
  · refine WL.on rfl rfl ?_
    refine WL.y (Yl.field fo27_2 rfl) rfl ?_ -- t17
    refine WL.on rfl rfl ?_
    refine WL.y (Yl.load on25 rfl (by repeat (first | exact Take1.head | apply Take1.tail)) b17) rfl ?_ -- t18
    refine WL.on rfl rfl ?_
    refine WL.y (Yl.len un25 rfl) rfl ?_ -- t19
    refine WL.on rfl rfl ?_
    refine WL.y (Yl.gtr rfl rfl) rfl ?_ -- t20
    refine WL.y (Yl.pickF rfl rfl) rfl ?_ -- t21
    refine WL.nil ?_
    refine WC.condD rfl (fun g21 => ?_) (fun g21 => ?_)
    · refine WC.seq ?_
      refine WC.region ?_
      refine WL.y (Yl.assign rfl) rfl ?_ -- t6
      refine WL.nil ?_
      refine WC.ret ?_
      repeat (first | (with_reducible refine peelT ?_) | (with_reducible refine peelB ?_) | (with_reducible refine peelTX ?_) | (with_reducible refine peelBX ?_) | (with_reducible refine peelBN ?_) | (with_reducible refine peelBO rfl ?_))
      exact ret1 (.inr rfl) Try.results5 rfl fun w' h => ⟨(), trivial, rfl, h.sub (by repeat (first | exact TakeL.nil | (apply TakeL.cons; · repeat (first | exact Take1.head | apply Take1.tail))))⟩
    · refine WC.skip ?_
      refine WC.seq ?_
      have hms : ms.length ≤ 300 := by have := of_decide_eq_false g16; omega
      have hns : ns.length ≤ 300 := by omega
      refine WC.region ?_
      refine WL.y (Yl.loadN ag27 rfl (by repeat (first | exact Take1.head | apply Take1.tail)) (by rw [Rs.len18 hg]; rfl) (rall hg)) rfl ?_ -- t22
      refine WL.callC (xs := [.tmp 22]) (cap := []) rfl rfl en15 (by repeat (first | exact TakeL.nil | (apply TakeL.cons; · repeat (first | exact Take1.head | apply Take1.tail)))) (fun w hw => digest_any r ms hr (by omega) w (hw.src (A := []) (r := rdR r.v 2 ms.length (vcs Dv.val ms)) RdOf.rd' (by repeat (first | exact Take1.head | apply Take1.tail))) hw.left.here) rfl ?_ -- t23 hailer/roster.Digest
      rintro ⟨⟩ -
      refine WL.to (To.alloc (cs := List.replicate 32 (.int .u8 0)) zr46 rfl) rfl ?_ -- t7
      intro b7
      refine WL.sto (Sto.agg sz46 rfl rfl (by repeat (first | exact Take1.head | apply Take1.tail)) (ints_one _ _) h32 (by rfl) (show (List.replicate 32 (Value.int .u8 0)).take 0 ++ ints .u8 (digF r ms) ++ (List.replicate 32 (Value.int .u8 0)).drop (0 + 32) = ints .u8 (digF r ms) by simp)) (fun _ h => nomatch h) ?_ -- st 1
      refine WL.nil ?_
      refine WC.seq ?_
      refine WC.region ?_
      refine WL.y (Yl.loadN ag27 rfl (by repeat (first | exact Take1.head | apply Take1.tail)) (by rw [Rs.len18 hg]; rfl) (rall hg)) rfl ?_ -- t25
      refine WL.callC (xs := [.tmp 25]) (cap := []) rfl rfl en17 (by repeat (first | exact TakeL.nil | (apply TakeL.cons; · repeat (first | exact Take1.head | apply Take1.tail)))) (fun w hw => head_any r ms hg (by omega) w (hw.src (A := []) (r := rdR r.v 2 ms.length (vcs Dv.val ms)) RdOf.rd' (by repeat (first | exact Take1.head | apply Take1.tail))) hw.left.here) rfl ?_ -- t26 hailer/roster.Head
      rintro ⟨⟩ -
      refine WL.y (Yl.move rfl) rfl ?_ -- t24
      refine WL.y (Yl.extract rfl rfl) rfl ?_ -- t27
      refine WL.y (Yl.extract rfl rfl) rfl ?_ -- t28
      refine WL.to (To.alloc (cs := d0.cells) zr31 rfl) rfl ?_ -- t8
      intro b8
      refine WL.sto (Sto.agg sz31 rfl rfl (by repeat (first | exact Take1.head | apply Take1.tail)) (Dv.ones (hdF ms)) rfl (by rfl) (show _ = (hdF ms).cells from rfl)) (fun _ h => nomatch h) ?_ -- st 2
      refine WL.y (Yl.assign rfl) rfl ?_ -- t9
      refine WL.nil ?_
      refine WC.seq ?_
      refine WC.midX (α := Unit) (fun _ => [(54, .bool false), (3, .pointer (some ⟨b3, 0, none⟩)), (4, .pointer (some ⟨b4, 0, none⟩)), (5, .pointer (some ⟨b5, 0, none⟩)), (7, .pointer (some ⟨b7, 0, none⟩))]) (fun _ => [blkR b3 27 r.cells, blkR b4 27 q.cells, blkR b5 31 d.cells, blkR b7 46 (ints .u8 (digF r ms)), rdR r.v 2 ms.length (vcs Dv.val ms), rdR q.v 2 ns.length (vcs Dv.val ns)]) (fun _ => True) ?_ ?_
      · refine WC.drawRead mixed (by kernel_rfl) ?_
        refine WH.y (Yl.move rfl) rfl ?_ -- t29
        refine WH.y (Yl.field fo27_2 rfl) rfl ?_ -- t30
        refine WH.y (Yl.load on25 rfl (by repeat (first | exact Take1.head | apply Take1.tail)) a17) rfl ?_ -- t31
        refine WH.y (Yl.len un25 rfl) rfl ?_ -- t32
        refine WH.y (Yl.gtr rfl rfl) rfl ?_ -- t33
        refine WH.y (Yl.bNe un4 rfl rfl) rfl ?_ -- t34
        refine WH.know (t := 34) (b' := false) rfl (by by_cases h0 : ms.length = 0 <;> simp [h0] <;> omega) ?_
        refine WH.y (Yl.move rfl) rfl ?_ -- t35
        refine WH.on rfl rfl ?_
        refine WH.y (Yl.move rfl) rfl ?_ -- t36
        refine WH.on rfl rfl ?_
        refine WH.y (Yl.move rfl) rfl ?_ -- t37
        refine WH.both (t := 37) rfl (fun g37 => ?_) (fun g37 => ?_)
        · refine WH.on rfl rfl ?_
          refine WH.y (Yl.loadN ag31 rfl (by repeat (first | exact Take1.head | apply Take1.tail)) (by rfl) (by rfl)) rfl ?_ -- t38
          refine WH.on rfl rfl ?_
          refine WH.y (Yl.field fo27_2 rfl) rfl ?_ -- t39
          refine WH.on rfl rfl ?_
          refine WH.y (Yl.load on25 rfl (by repeat (first | exact Take1.head | apply Take1.tail)) a17) rfl ?_ -- t40
          refine WH.on rfl rfl ?_
          have hpos : 0 < ms.length := by have : ¬ ms.length = 0 := (by simpa using g37); omega
          obtain ⟨x, hxx⟩ : ∃ x, ms[0]? = some x := ⟨_, List.getElem?_eq_getElem hpos⟩
          have hxo := h1 x (List.mem_of_getElem? hxx)
          have hh : hdF ms = x := getD_at hxx
          have hx0 : ∀ w', OK w (fpL [rdR r.v 2 ms.length (vcs Dv.val ms), rdR q.v 2 ns.length (vcs Dv.val ns)]) ([blkR b8 31 (hdF ms).cells] ++ [blkR b3 27 r.cells, blkR b4 27 q.cells, blkR b5 31 d.cells, blkR b7 46 (ints .u8 (digF r ms)), rdR r.v 2 ms.length (vcs Dv.val ms), rdR q.v 2 ns.length (vcs Dv.val ns)]) w' → True := fun _ _ => trivial
          refine WH.y (Yl.index (j := 0) un25 sz31 rfl rfl (hv ▸ Reads.of (r := rdR r.v 2 ms.length (vcs Dv.val ms)) RdOf.rd' (by repeat (first | exact Take1.head | apply Take1.tail))) rfl hpos) rfl ?_
          refine WH.on rfl rfl ?_
          refine WH.y (Yl.loadV (j := 0) (u := x) dvV dvAll rfl (hv ▸ Reads.of (r := rdR r.v 2 ms.length (vcs Dv.val ms)) RdOf.rd' (by repeat (first | exact Take1.head | apply Take1.tail))) rfl hxx) rfl ?_
          refine WH.on rfl rfl ?_
          refine WH.y (Yl.neA (xs := (hdF ms).cells) (ys := x.cells) flatD rfl rfl (by rw [hh]; exact Dv.fits hxo) (Dv.fits hxo)) rfl ?_
          refine WH.know (t := 43) (b' := false) rfl (by rw [hh, eqV_self]; rfl) ?_
          refine WH.on rfl rfl ?_
          refine WH.y (Yl.pickT rfl rfl) rfl ?_ -- t44
          refine WH.y (Yl.pickF rfl rfl) rfl ?_ -- t45
          refine WH.y (Yl.move rfl) rfl ?_ -- t46
          refine WH.on rfl rfl ?_
          refine WH.y (Yl.move rfl) rfl ?_ -- t47
          refine WH.on rfl rfl ?_
          refine WH.y (Yl.not rfl) rfl ?_ -- t48
          refine WH.know (t := 48) (b' := false) rfl (by have : ¬ ms.length = 0 := (by simpa using g37); simp [this]) ?_
          refine WH.on rfl rfl ?_
          refine WH.y (Yl.move rfl) rfl ?_ -- t49
          refine WH.off rfl rfl rfl rfl ?_ -- t50
          refine WH.off rfl rfl rfl rfl ?_ -- t51
          refine WH.off rfl rfl rfl rfl ?_ -- t52
          refine WH.on rfl rfl ?_
          refine WH.y (Yl.pickF rfl rfl) rfl ?_ -- t53
          refine WH.y (Yl.pickF rfl rfl) rfl ?_ -- t54
          refine WH.nil ?_
          exact ⟨rfl, (), trivial, (by repeat (first | exact Sub.nil | refine Sub.cons rfl ?_)), _, (by repeat (first | exact TakeL.nil | (apply TakeL.cons; · repeat (first | exact Take1.head | apply Take1.tail))))⟩
        · refine WH.off rfl rfl rfl rfl ?_ -- t38
          refine WH.off rfl rfl rfl rfl ?_ -- t39
          refine WH.off rfl rfl rfl rfl ?_ -- t40
          refine WH.off rfl rfl rfl rfl ?_ -- t41
          refine WH.off rfl rfl rfl rfl ?_ -- t42
          refine WH.off rfl rfl rfl rfl ?_ -- t43
          refine WH.on rfl rfl ?_
          refine WH.y (Yl.pickF rfl rfl) rfl ?_ -- t44
          refine WH.y (Yl.pickF rfl rfl) rfl ?_ -- t45
          refine WH.y (Yl.move rfl) rfl ?_ -- t46
          refine WH.on rfl rfl ?_
          refine WH.y (Yl.move rfl) rfl ?_ -- t47
          refine WH.on rfl rfl ?_
          refine WH.y (Yl.not rfl) rfl ?_ -- t48
          refine WH.know (t := 48) (b' := true) rfl (by have : ms.length = 0 := (by simpa using g37); simp [this]) ?_
          refine WH.on rfl rfl ?_
          refine WH.y (Yl.move rfl) rfl ?_ -- t49
          refine WH.on rfl rfl ?_
          refine WH.y (Yl.loadN ag31 rfl (by repeat (first | exact Take1.head | apply Take1.tail)) (by rfl) (by rfl)) rfl ?_ -- t50
          refine WH.on rfl rfl ?_
          refine WH.y (Yl.build rfl (cs := d0.cells) (fun _ => by kernel_rfl)) rfl ?_ -- t51
          refine WH.on rfl rfl ?_
          refine WH.y (Yl.neA (xs := (hdF ms).cells) (ys := d0.cells) flatD rfl rfl (by rw [show hdF ms = d0 by (have : ms.length = 0 := (by simpa using g37)); rw [List.eq_nil_of_length_eq_zero this]; rfl]; exact Dv.fits (dok (by decide))) (Dv.fits (dok (by decide)))) rfl ?_
          refine WH.know (t := 52) (b' := false) rfl (by rw [show hdF ms = d0 by (have : ms.length = 0 := (by simpa using g37)); rw [List.eq_nil_of_length_eq_zero this]; rfl]; rw [eqV_self]; rfl) ?_
          refine WH.on rfl rfl ?_
          refine WH.y (Yl.pickT rfl rfl) rfl ?_ -- t53
          refine WH.y (Yl.pickF rfl rfl) rfl ?_ -- t54
          refine WH.nil ?_
          exact ⟨rfl, (), trivial, (by repeat (first | exact Sub.nil | refine Sub.cons rfl ?_)), _, (by repeat (first | exact TakeL.nil | (apply TakeL.cons; · repeat (first | exact Take1.head | apply Take1.tail))))⟩
      · rintro ⟨⟩ -
        try dsimp only
        refine WC.condF rfl (by first | rfl | (simp; done) | (simp; omega)) ?_
        refine WC.skip ?_
        refine WC.seq ?_
        refine WC.view (fun w h => h.dup (r := rdR r.v 2 ms.length (vcs Dv.val ms)) (by repeat (first | exact Take1.head | apply Take1.tail)) (fun k hk => hk)) ?_
        refine WC.view (fun w h => h.dup (r := rdR q.v 2 ns.length (vcs Dv.val ns)) (by repeat (first | exact Take1.head | apply Take1.tail)) (fun k hk => hk)) ?_
        refine WC.drawAny (Hs := [blkR b3 27 r.cells, blkR b4 27 q.cells, blkR b5 31 d.cells, blkR b7 46 (ints .u8 (digF r ms))]) mixed (by kernel_rfl) ⟨_, (by repeat (first | exact TakeL.nil | (apply TakeL.cons; · repeat (first | exact Take1.head | apply Take1.tail))))⟩ ?_
        refine WD.take 0 rfl (by kernel_rfl) (by kernel_rfl) (by kernel_rfl) rfl rfl (Yl.loadN ag27 rfl (by repeat (first | exact Take1.head | apply Take1.tail)) (by rw [Rs.len18 hg]; rfl) (rall hg)) rfl ?_ -- t55
        refine WD.take 2 rfl (by kernel_rfl) (by kernel_rfl) (by kernel_rfl) rfl rfl (Yl.loadN ag27 rfl (by repeat (first | exact Take1.head | apply Take1.tail)) (by rw [Rs.len18 hg]; rfl) (rall hg)) rfl ?_ -- t57
        refine WD.one 1 (by kernel_rfl) ?_
        refine WO.callC (xs := [.tmp 55]) (cap := []) rfl .no rfl rfl en16 (by repeat (first | exact TakeL.nil | (apply TakeL.cons; · repeat (first | exact Take1.head | apply Take1.tail)))) (fun w hw => may_any r ms hg (by omega) w (hw.src (A := []) (r := rdR r.v 2 ms.length (vcs Dv.val ms)) RdOf.rd' (by repeat (first | exact Take1.head | apply Take1.tail))) hw.left.here) rfl (fun _ => ⟨_, (by repeat (first | exact TakeL.nil | (apply TakeL.cons; · repeat (first | exact Take1.head | apply Take1.tail))))⟩) ?_ -- t56 hailer/roster.May
        rintro ⟨⟩ -
        refine WD.one 3 (by kernel_rfl) ?_
        refine WO.callC (xs := [.tmp 57]) (cap := []) rfl .no rfl rfl en18 (by repeat (first | exact TakeL.nil | (apply TakeL.cons; · repeat (first | exact Take1.head | apply Take1.tail)))) (fun w hw => rmay_any r ms hg (by omega) h1 w (hw.src (A := []) (r := rdR r.v 2 ms.length (vcs Dv.val ms)) RdOf.rd' (by repeat (first | exact Take1.head | apply Take1.tail))) hw.left.here) rfl (fun _ => ⟨_, (by repeat (first | exact TakeL.nil | (apply TakeL.cons; · repeat (first | exact Take1.head | apply Take1.tail))))⟩) ?_ -- t58 hailer/hailerref23.May
        rintro ⟨⟩ -
        refine WD.take 4 rfl (by kernel_rfl) (by kernel_rfl) (by kernel_rfl) rfl rfl (Yl.bEq un4 rfl rfl) rfl ?_ -- t59
        refine WD.know (t := 59) (b' := true) rfl (by simp) ?_
        refine WD.take 5 rfl (by kernel_rfl) (by kernel_rfl) (by kernel_rfl) rfl rfl (Yl.move rfl) rfl ?_ -- t60
        refine WD.takeOn 6 rfl (by kernel_rfl) (by kernel_rfl) (by kernel_rfl) rfl rfl rfl rfl (Yl.loadN ag27 rfl (by repeat (first | exact Take1.head | apply Take1.tail)) (by rw [Rs.len18 hg]; rfl) (rall hg)) rfl ?_ -- t61
        refine WD.takeOn 7 rfl (by kernel_rfl) (by kernel_rfl) (by kernel_rfl) rfl rfl rfl rfl (Yl.loadN ag27 rfl (by repeat (first | exact Take1.head | apply Take1.tail)) (by rw [Rs.len18 hg2]; rfl) (rall hg2)) rfl ?_ -- t62
        refine WD.takeOn 9 rfl (by kernel_rfl) (by kernel_rfl) (by kernel_rfl) rfl rfl rfl rfl (Yl.loadN ag27 rfl (by repeat (first | exact Take1.head | apply Take1.tail)) (by rw [Rs.len18 hg]; rfl) (rall hg)) rfl ?_ -- t64
        refine WD.takeOn 10 rfl (by kernel_rfl) (by kernel_rfl) (by kernel_rfl) rfl rfl rfl rfl (Yl.loadN ag27 rfl (by repeat (first | exact Take1.head | apply Take1.tail)) (by rw [Rs.len18 hg2]; rfl) (rall hg2)) rfl ?_ -- t65
        refine WD.one 8 (by kernel_rfl) ?_
        refine WO.callC (xs := [.tmp 61, .tmp 62]) (cap := []) rfl (.on rfl rfl) rfl rfl en14 (by repeat (first | exact TakeL.nil | (apply TakeL.cons; · repeat (first | exact Take1.head | apply Take1.tail)))) (fun w hw => follows_any r q ms ns hr hq h1 h2 (by omega) (by omega) w hw.left.here) rfl (fun _ => ⟨_, (by repeat (first | exact TakeL.nil | (apply TakeL.cons; · repeat (first | exact Take1.head | apply Take1.tail))))⟩) ?_ -- t63 hailer/roster.Follows
        rintro ⟨⟩ -
        refine WD.one 11 (by kernel_rfl) ?_
        refine WO.callC (xs := [.tmp 64, .tmp 65]) (cap := []) rfl (.on rfl rfl) rfl rfl en19 (by repeat (first | exact TakeL.nil | (apply TakeL.cons; · repeat (first | exact Take1.head | apply Take1.tail)))) (fun w hw => rfollows_any r q ms ns hr hq h1 h2 (by omega) (by omega) w (hw.src (A := []) (r := rdR r.v 2 ms.length (vcs Dv.val ms)) RdOf.rd' (by repeat (first | exact Take1.head | apply Take1.tail))) (hw.src (A := []) (r := rdR q.v 2 ns.length (vcs Dv.val ns)) RdOf.rd' (by repeat (first | exact Take1.head | apply Take1.tail))) hw.left.here) rfl (fun _ => ⟨_, (by repeat (first | exact TakeL.nil | (apply TakeL.cons; · repeat (first | exact Take1.head | apply Take1.tail))))⟩) ?_ -- t66 hailer/hailerref23.Follows
        rintro ⟨⟩ -
        refine WD.takeOn 12 rfl (by kernel_rfl) (by kernel_rfl) (by kernel_rfl) rfl rfl rfl rfl (Yl.bEq un4 rfl rfl) rfl ?_ -- t67
        refine WD.know (t := 67) (b' := true) rfl (by simp) ?_
        refine WD.take 13 rfl (by kernel_rfl) (by kernel_rfl) (by kernel_rfl) rfl rfl (Yl.pickT rfl rfl) rfl ?_ -- t68
        refine WD.take 14 rfl (by kernel_rfl) (by kernel_rfl) (by kernel_rfl) rfl rfl (Yl.move rfl) rfl ?_ -- t69
        refine WD.takeOn 15 rfl (by kernel_rfl) (by kernel_rfl) (by kernel_rfl) rfl rfl rfl rfl (Yl.loadN ag27 rfl (by repeat (first | exact Take1.head | apply Take1.tail)) (by rw [Rs.len18 hg]; rfl) (rall hg)) rfl ?_ -- t70
        refine WD.takeOn 16 rfl (by kernel_rfl) (by kernel_rfl) (by kernel_rfl) rfl rfl rfl rfl (Yl.loadN ag27 rfl (by repeat (first | exact Take1.head | apply Take1.tail)) (by rw [Rs.len18 hg2]; rfl) (rall hg2)) rfl ?_ -- t71
        refine WD.takeOn 18 rfl (by kernel_rfl) (by kernel_rfl) (by kernel_rfl) rfl rfl rfl rfl (Yl.loadN ag27 rfl (by repeat (first | exact Take1.head | apply Take1.tail)) (by rw [Rs.len18 hg]; rfl) (rall hg)) rfl ?_ -- t73
        refine WD.takeOn 19 rfl (by kernel_rfl) (by kernel_rfl) (by kernel_rfl) rfl rfl rfl rfl (Yl.loadN ag27 rfl (by repeat (first | exact Take1.head | apply Take1.tail)) (by rw [Rs.len18 hg2]; rfl) (rall hg2)) rfl ?_ -- t74
        refine WD.one 17 (by kernel_rfl) ?_
        refine WO.callC (xs := [.tmp 70, .tmp 71]) (cap := []) rfl (.on rfl rfl) rfl rfl en20 (by repeat (first | exact TakeL.nil | (apply TakeL.cons; · repeat (first | exact Take1.head | apply Take1.tail)))) (fun w hw => lcame_any r q ms ns hg hg2 h1 h2 (by omega) (by omega) w hw.left.here) rfl (fun _ => ⟨_, (by repeat (first | exact TakeL.nil | (apply TakeL.cons; · repeat (first | exact Take1.head | apply Take1.tail))))⟩) ?_ -- t72 hailer/hailerlaw23.came
        rintro y72 -
        refine WD.one 20 (by kernel_rfl) ?_
        refine WO.callC (xs := [.tmp 73, .tmp 74]) (cap := []) rfl (.on rfl rfl) rfl rfl en21 (by repeat (first | exact TakeL.nil | (apply TakeL.cons; · repeat (first | exact Take1.head | apply Take1.tail)))) (fun w hw => rcame_any r q ms ns hg hg2 h1 h2 (by omega) (by omega) w (hw.src (A := []) (r := rdR r.v 2 ms.length (vcs Dv.val ms)) RdOf.rd' (by repeat (first | exact Take1.head | apply Take1.tail))) (hw.src (A := []) (r := rdR q.v 2 ns.length (vcs Dv.val ns)) RdOf.rd' (by repeat (first | exact Take1.head | apply Take1.tail))) hw.left.here) rfl (fun _ => ⟨_, (by repeat (first | exact TakeL.nil | (apply TakeL.cons; · repeat (first | exact Take1.head | apply Take1.tail))))⟩) ?_ -- t75 hailer/hailerref23.Came
        rintro ⟨y75o, y75c⟩ -
        refine WD.one 21 (by kernel_rfl) ?_
        refine WO.callC (xs := [.tmp 72, .tmp 75]) (cap := []) rfl (.on rfl rfl) rfl rfl en12 (by repeat (first | exact TakeL.nil | (apply TakeL.cons; · repeat (first | exact Take1.head | apply Take1.tail)))) (fun w hw => equalD_any y72 (.slice y75o (cameF ms ns).length y75c) (cameF ms ns) (cameF ms ns) (came_ok h2) (came_ok h2) (by have := came_len ms ns; omega) w (hw.src (A := []) (r := ownR y72 31 2 (cameF ms ns).length (vcs Dv.val (cameF ms ns))) RdOf.own (by repeat (first | exact Take1.head | apply Take1.tail))) (hw.src (A := []) (r := ownR (.slice y75o (cameF ms ns).length y75c) 31 2 (cameF ms ns).length (vcs Dv.val (cameF ms ns))) RdOf.own (by repeat (first | exact Take1.head | apply Take1.tail))) hw.left.here) rfl (fun _ => ⟨_, (by repeat (first | exact TakeL.nil | (apply TakeL.cons; · repeat (first | exact Take1.head | apply Take1.tail))))⟩) ?_ -- t76 slices.Equal[[]hailer/api.Dev,hailer/api.Dev]
        rintro ⟨⟩ -
        refine WD.know (t := 76) (b' := true) rfl (by first | rfl | (simp; done) | (simp; omega)) ?_
        refine WD.take 22 rfl (by kernel_rfl) (by kernel_rfl) (by kernel_rfl) rfl rfl (Yl.pickT rfl rfl) rfl ?_ -- t77
        refine WD.take 23 rfl (by kernel_rfl) (by kernel_rfl) (by kernel_rfl) rfl rfl (Yl.move rfl) rfl ?_ -- t78
        refine WD.takeOn 24 rfl (by kernel_rfl) (by kernel_rfl) (by kernel_rfl) rfl rfl rfl rfl (Yl.sliceArr un46 sz5 (by decide) rfl) rfl ?_ -- t79
        refine WD.takeOn 25 rfl (by kernel_rfl) (by kernel_rfl) (by kernel_rfl) rfl rfl rfl rfl (Yl.toStr (xs := digF r ms) un53 un5 un9 rfl (by rw [show (digF r ms).length = 32 by unfold digF; rw [sum256_len]]; exact Reads.of (r := blkR b7 46 (ints .u8 (digF r ms))) (RdOf.blk (cs' := ints .u8 (digF r ms)) (Nat.le_refl _) (by unfold maxLen; omega) (by rw [h32]; omega) (by rw [List.drop_zero, List.take_of_length_le (by rw [h32]; omega)])) (by repeat (first | exact Take1.head | apply Take1.tail)))) rfl ?_
        refine WD.takeOn 26 rfl (by kernel_rfl) (by kernel_rfl) (by kernel_rfl) rfl rfl rfl rfl (Yl.loadN ag27 rfl (by repeat (first | exact Take1.head | apply Take1.tail)) (by rw [Rs.len18 hg]; rfl) (rall hg)) rfl ?_ -- t81
        refine WD.one 27 (by kernel_rfl) ?_
        refine WO.callC (xs := [.tmp 81]) (cap := []) rfl (.on rfl rfl) rfl rfl en22 (by repeat (first | exact TakeL.nil | (apply TakeL.cons; · repeat (first | exact Take1.head | apply Take1.tail)))) (fun w hw => rdigest_any r ms hr h1 (by omega) w (hw.src (A := []) (r := rdR r.v 2 ms.length (vcs Dv.val ms)) RdOf.rd' (by repeat (first | exact Take1.head | apply Take1.tail))) hw.left.here) rfl (fun _ => ⟨_, (by repeat (first | exact TakeL.nil | (apply TakeL.cons; · repeat (first | exact Take1.head | apply Take1.tail))))⟩) ?_ -- t82 hailer/hailerref23.Digest
        rintro ⟨y82o, y82c⟩ -
        refine WD.one 28 (by kernel_rfl) ?_
        refine WO.y rfl rfl (.on rfl rfl) (Yl.toStr (xs := digF r ms) un53 un5 un9 rfl (by rw [show (digF r ms).length = 32 by unfold digF; rw [sum256_len]]; exact Reads.of (r := ownR (.slice y82o 32 y82c) 5 1 32 (ints .u8 (digF r ms))) RdOf.own (by repeat (first | exact Take1.head | apply Take1.tail)))) rfl ?_
        refine WD.takeOn 29 rfl (by kernel_rfl) (by kernel_rfl) (by kernel_rfl) rfl rfl rfl rfl (Yl.sEq rfl rfl) rfl ?_ -- t84
        refine WD.know (t := 84) (b' := true) rfl (by simp) ?_
        refine WD.take 30 rfl (by kernel_rfl) (by kernel_rfl) (by kernel_rfl) rfl rfl (Yl.pickT rfl rfl) rfl ?_ -- t85
        refine WD.take 31 rfl (by kernel_rfl) (by kernel_rfl) (by kernel_rfl) rfl rfl (Yl.move rfl) rfl ?_ -- t86
        refine WD.takeOn 32 rfl (by kernel_rfl) (by kernel_rfl) (by kernel_rfl) rfl rfl rfl rfl (Yl.loadN ag27 rfl (by repeat (first | exact Take1.head | apply Take1.tail)) (by rw [Rs.len18 hg]; rfl) (rall hg)) rfl ?_ -- t87
        refine WD.takeOn 33 rfl (by kernel_rfl) (by kernel_rfl) (by kernel_rfl) rfl rfl rfl rfl (Yl.loadN ag31 rfl (by repeat (first | exact Take1.head | apply Take1.tail)) (by rfl) (show _ = d.cells from rfl)) rfl ?_ -- t88
        refine WD.takeOn 35 rfl (by kernel_rfl) (by kernel_rfl) (by kernel_rfl) rfl rfl rfl rfl (Yl.loadN ag27 rfl (by repeat (first | exact Take1.head | apply Take1.tail)) (by rw [Rs.len18 hg]; rfl) (rall hg)) rfl ?_ -- t90
        refine WD.takeOn 36 rfl (by kernel_rfl) (by kernel_rfl) (by kernel_rfl) rfl rfl rfl rfl (Yl.loadN ag31 rfl (by repeat (first | exact Take1.head | apply Take1.tail)) (by rfl) (show _ = d.cells from rfl)) rfl ?_ -- t91
        refine WD.one 34 (by kernel_rfl) ?_
        refine WO.callC (xs := [.tmp 87, .tmp 88]) (cap := []) rfl (.on rfl rfl) rfl rfl en23 (by repeat (first | exact TakeL.nil | (apply TakeL.cons; · repeat (first | exact Take1.head | apply Take1.tail)))) (fun w hw => has_any r ms d hg (by omega) h1 hd w (hw.src (A := []) (r := rdR r.v 2 ms.length (vcs Dv.val ms)) RdOf.rd' (by repeat (first | exact Take1.head | apply Take1.tail))) hw.left.here) rfl (fun _ => ⟨_, (by repeat (first | exact TakeL.nil | (apply TakeL.cons; · repeat (first | exact Take1.head | apply Take1.tail))))⟩) ?_ -- t89 hailer/roster.Has
        rintro ⟨⟩ -
        refine WD.one 37 (by kernel_rfl) ?_
        refine WO.callC (xs := [.tmp 90, .tmp 91]) (cap := []) rfl (.on rfl rfl) rfl rfl en24 (by repeat (first | exact TakeL.nil | (apply TakeL.cons; · repeat (first | exact Take1.head | apply Take1.tail)))) (fun w hw => rhas_any r ms d hg (by omega) h1 hd w (hw.src (A := []) (r := rdR r.v 2 ms.length (vcs Dv.val ms)) RdOf.rd' (by repeat (first | exact Take1.head | apply Take1.tail))) hw.left.here) rfl (fun _ => ⟨_, (by repeat (first | exact TakeL.nil | (apply TakeL.cons; · repeat (first | exact Take1.head | apply Take1.tail))))⟩) ?_ -- t92 hailer/hailerref23.Has
        rintro ⟨⟩ -
        refine WD.takeOn 38 rfl (by kernel_rfl) (by kernel_rfl) (by kernel_rfl) rfl rfl rfl rfl (Yl.bEq un4 rfl rfl) rfl ?_ -- t93
        refine WD.know (t := 93) (b' := true) rfl (by simp) ?_
        refine WD.take 39 rfl (by kernel_rfl) (by kernel_rfl) (by kernel_rfl) rfl rfl (Yl.pickT rfl rfl) rfl ?_ -- t94
        refine WD.take 40 rfl (by kernel_rfl) (by kernel_rfl) (by kernel_rfl) rfl rfl (Yl.move rfl) rfl ?_ -- t95
        refine WD.takeOn 41 rfl (by kernel_rfl) (by kernel_rfl) (by kernel_rfl) rfl rfl rfl rfl (Yl.loadN ag31 rfl (by repeat (first | exact Take1.head | apply Take1.tail)) (by rfl) (show _ = d.cells from rfl)) rfl ?_ -- t96
        refine WD.takeOn 43 rfl (by kernel_rfl) (by kernel_rfl) (by kernel_rfl) rfl rfl rfl rfl (Yl.loadN ag31 rfl (by repeat (first | exact Take1.head | apply Take1.tail)) (by rfl) (show _ = d.cells from rfl)) rfl ?_ -- t98
        refine WD.one 42 (by kernel_rfl) ?_
        refine WO.callC (xs := [.tmp 96]) (cap := []) rfl (.on rfl rfl) rfl rfl en25 (by repeat (first | exact TakeL.nil | (apply TakeL.cons; · repeat (first | exact Take1.head | apply Take1.tail)))) (fun w hw => place_any d hd w hw.left.here) rfl (fun _ => ⟨_, (by repeat (first | exact TakeL.nil | (apply TakeL.cons; · repeat (first | exact Take1.head | apply Take1.tail))))⟩) ?_ -- t97 hailer/roster.Place
        rintro ⟨⟩ -
        refine WD.one 44 (by kernel_rfl) ?_
        refine WO.callC (xs := [.tmp 98]) (cap := []) rfl (.on rfl rfl) rfl rfl en26 (by repeat (first | exact TakeL.nil | (apply TakeL.cons; · repeat (first | exact Take1.head | apply Take1.tail)))) (fun w hw => rplace_any d hd w hw.left.here) rfl (fun _ => ⟨_, (by repeat (first | exact TakeL.nil | (apply TakeL.cons; · repeat (first | exact Take1.head | apply Take1.tail))))⟩) ?_ -- t99 hailer/hailerref23.Place
        rintro ⟨⟩ -
        refine WD.takeOn 45 rfl (by kernel_rfl) (by kernel_rfl) (by kernel_rfl) rfl rfl rfl rfl (Yl.conv un3 un24 rfl (u64_in _ (by rw [pl_eq hd]; obtain ⟨⟨p1, p2⟩, p3, p4⟩ := hd; omega))) rfl ?_ -- t100
        refine WD.takeOn 46 rfl (by kernel_rfl) (by kernel_rfl) (by kernel_rfl) rfl rfl rfl rfl (Yl.eql rfl rfl) rfl ?_ -- t101
        refine WD.know (t := 101) (b' := true) rfl (by first | rfl | (simp; done) | (simp; omega)) ?_
        refine WD.take 47 rfl (by kernel_rfl) (by kernel_rfl) (by kernel_rfl) rfl rfl (Yl.pickT rfl rfl) rfl ?_ -- t102
        refine WD.take 48 rfl (by kernel_rfl) (by kernel_rfl) (by kernel_rfl) rfl rfl (Yl.assign rfl) rfl ?_ -- t6
        refine WD.done (by kernel_rfl) ?_
        refine WC.ret ?_
        repeat (first | (with_reducible refine peelT ?_) | (with_reducible refine peelB ?_) | (with_reducible refine peelTX ?_) | (with_reducible refine peelBX ?_) | (with_reducible refine peelBN ?_) | (with_reducible refine peelBO rfl ?_))
        exact ret1 (.inr rfl) Try.results5 rfl fun w' h => ⟨(), trivial, rfl, h.sub (by repeat (first | exact TakeL.nil | (apply TakeL.cons; · repeat (first | exact Take1.head | apply Take1.tail))))⟩
end Go.Proofs.Ytfdnnlcfolgegaa
