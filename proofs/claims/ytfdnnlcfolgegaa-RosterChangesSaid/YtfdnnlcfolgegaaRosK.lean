/- RosterChanges: the walk. -/
import Derived.Test.YtfdnnlcfolgegaaRosJ
import Derived.Test.YtfdnnlcfolgegaaLibL
namespace Go.Proofs.Ytfdnnlcfolgegaa
open Go Go.RowKit

theorem nxt_ok {inn : Bool} {ms l : List Dv} {e : Int} (ho : DOk ms) (hlo : DOk l) : DOk (outMs inn e ms l) ∧ (outMs inn e ms l).length ≤ ms.length + l.length := by
  have key : ∀ (l ms : List Dv), Good ms → DOk l → DOk (runF inn ms l).2 ∧ (runF inn ms l).2.length ≤ ms.length + l.length := by
    intro l
    induction l with
    | nil => intro ms hg _; exact ⟨hg.ok, by simp [runF]⟩
    | cons d l ih =>
      intro ms hg hl
      unfold runF
      split
      · exact ⟨(fun x hx => nomatch hx), by simp⟩
      · have hd := hl d (by simp)
        obtain ⟨a, b⟩ := ih (nxtF inn ms d) (nxt_good hg hd) (fun x hx => hl x (by simp [hx]))
        refine ⟨a, ?_⟩
        have := nxt_len (inn := inn) (xs := ms) (d := d)
        rw [List.length_cons]; omega
  unfold outMs
  split
  · rename_i hc
    have hm : mayF e ms = true := by
      cases h : mayF e ms with
      | true => rfl
      | false => unfold codeF at hc; rw [h] at hc; simp at hc
    exact key l ms ((mayF_iff ho).1 hm).2.2.2.2 hlo
  · exact ⟨(fun x hx => nomatch hx), by simp⟩
theorem outRs_ok {inn : Bool} {r : Rs} {ms l : List Dv} {y : Value} (hr : r.ok) : (outRs inn r ms l y).ok := by
  unfold outRs
  split
  · rename_i hc
    refine ⟨hr.len, hr.b, by have := hr.e; show 0 ≤ r.e + 1; omega, ?_⟩
    have he : r.e ≤ 1099511627776 := by
      apply Classical.byContradiction
      intro hgt
      unfold codeF at hc
      have : mayF r.e ms = false := by unfold mayF; rw [show decide (1099511627776 < r.e) = true from decide_eq_true (by omega)]; simp
      rw [this] at hc
      simp at hc
    show r.e + 1 < _; omega
  · exact ⟨rfl, by intro x hx; simp [Rs.zero] at hx; omega, by show (0 : Int) ≤ 0; omega, by show (0 : Int) < _; omega⟩
theorem outRs_ge {inn : Bool} {r : Rs} {ms l : List Dv} {y z : Value} : (outRs inn r ms l y).g = (outRs inn r ms l z).g ∧ (outRs inn r ms l y).e = (outRs inn r ms l z).e := by
  unfold outRs; split <;> exact ⟨rfl, rfl⟩

set_option maxRecDepth 100000 in
theorem rosterChanges_any (r : Rs) (hr : r.ok) (ms l : List Dv) (lv : Value) (ho : DOk ms) (hlo : DOk l) (w : World) (hw : OK w (fpL [rdR r.v 2 ms.length (vcs Dv.val ms), rdR lv 2 l.length (vcs Dv.val l)]) [rdR r.v 2 ms.length (vcs Dv.val ms), rdR lv 2 l.length (vcs Dv.val l)] w) :
    Fn Try.prog 3 [.agg r.cells.toArray, lv] [rdR r.v 2 ms.length (vcs Dv.val ms), rdR lv 2 l.length (vcs Dv.val l)] w (fun _ : Unit => True) (fun _ => .bool true) (fun _ => []) := by
  have hg := hr.len
  obtain ⟨ao, cap, hv, hcap, hml⟩ := (hw.get .head).form
  obtain ⟨bo, cap2, rfl, hcap2, hml2⟩ := (hw.get (.tail .head)).form
  have a17 := Rs.at17 hg
  have rall : ∀ {r : Rs}, r.g.length = 16 → (r.cells.drop 0).take 18 = r.cells := fun hg => by rw [List.drop_zero, List.take_of_length_le (by rw [Rs.len18 hg]; omega)]
  refine enterF Try.func3 rfl Try.ntmps3 rfl hw ?_
  refine WC.seq ?_
  refine WC.region ?_
  refine WL.to (To.box (cs := r.cells) rfl rfl) rfl ?_ -- t2
  intro b2
  refine WL.y (Yl.assign rfl) rfl ?_ -- t4
  refine WL.nil ?_
  refine WC.seq ?_
  refine WC.seq ?_
  refine WC.region ?_
  refine WL.callC (xs := []) (cap := []) rfl rfl en6 (by repeat (first | exact TakeL.nil | (apply TakeL.cons; · repeat (first | exact Take1.head | apply Take1.tail)))) (fun w hw => known_any w hw.left.here) rfl ?_ -- t16 hailer/hailerlaw23.known
  rintro ⟨⟩ -
  refine WL.y (Yl.not rfl) rfl ?_ -- t17
  refine WL.know (t := 17) (b' := false) rfl (by first | rfl | (simp; done) | (simp; omega)) ?_
  refine WL.nil ?_
  refine WC.condF rfl (by first | rfl | (simp; done) | (simp; omega)) ?_
  refine WC.skip ?_
  refine WC.seq ?_
  refine WC.seq ?_
  refine WC.region ?_
  refine WL.y (Yl.field fo27_2 rfl) rfl ?_ -- t18
  refine WL.y (Yl.load on25 rfl (by repeat (first | exact Take1.head | apply Take1.tail)) a17) rfl ?_ -- t19
  refine WL.say (t := 19) (v' := .slice ao ms.length cap) rfl (by exact hv) ?_
  refine WL.y (Yl.len un25 rfl) rfl ?_ -- t20
  refine WL.y (Yl.gtr rfl rfl) rfl ?_ -- t21
  refine WL.y (Yl.move rfl) rfl ?_ -- t22
  refine WL.both (t := 22) rfl (fun g22 => ?_) (fun g22 => ?_)
  · refine WL.off rfl rfl rfl rfl ?_ -- t23
    refine WL.off rfl rfl rfl rfl ?_ -- t24
    refine WL.off rfl rfl rfl rfl ?_ -- t25
    refine WL.y (Yl.pickT rfl rfl) rfl ?_ -- t26
    refine WL.nil ?_
    refine WC.condT rfl (by first | rfl | (simp; done) | (simp; omega)) ?_
    refine WC.seq ?_
    refine WC.region ?_
    refine WL.y (Yl.assign rfl) rfl ?_ -- t4
    refine WL.nil ?_
    refine WC.ret ?_
    repeat (first | (with_reducible refine peelT ?_) | (with_reducible refine peelB ?_) | (with_reducible refine peelTX ?_) | (with_reducible refine peelBX ?_) | (with_reducible refine peelBN ?_) | (with_reducible refine peelBO rfl ?_))
    exact ret1 (.inr rfl) Try.results3 rfl fun w' h => ⟨(), trivial, rfl, h.sub (by repeat (first | exact TakeL.nil | (apply TakeL.cons; · repeat (first | exact Take1.head | apply Take1.tail))))⟩
  · refine WL.on rfl rfl ?_
    refine WL.y (Yl.move rfl) rfl ?_ -- t23
    refine WL.on rfl rfl ?_
    refine WL.y (Yl.len un25 rfl) rfl ?_ -- t24
    refine WL.on rfl rfl ?_
    refine WL.y (Yl.gtr rfl rfl) rfl ?_ -- t25
    refine WL.y (Yl.pickF rfl rfl) rfl ?_ -- t26
    refine WL.nil ?_
    refine WC.condD rfl (fun g26 => ?_) (fun g26 => ?_)
    · refine WC.seq ?_
      refine WC.region ?_
      refine WL.y (Yl.assign rfl) rfl ?_ -- t4
      refine WL.nil ?_
      refine WC.ret ?_
      repeat (first | (with_reducible refine peelT ?_) | (with_reducible refine peelB ?_) | (with_reducible refine peelTX ?_) | (with_reducible refine peelBX ?_) | (with_reducible refine peelBN ?_) | (with_reducible refine peelBO rfl ?_))
      exact ret1 (.inr rfl) Try.results3 rfl fun w' h => ⟨(), trivial, rfl, h.sub (by repeat (first | exact TakeL.nil | (apply TakeL.cons; · repeat (first | exact Take1.head | apply Take1.tail))))⟩
    · refine WC.skip ?_
      refine WC.seq ?_
      refine WC.region ?_
      refine WL.y (Yl.field fo27_2 rfl) rfl ?_ -- t27
      have hms : ms.length ≤ 300 := by have := of_decide_eq_false g22; omega
      have hls : l.length ≤ 100 := by omega
      obtain ⟨ow, owl⟩ := nxt_ok (inn := true) (e := r.e) ho hlo
      obtain ⟨ov, ovl⟩ := nxt_ok (inn := false) (e := r.e) ho hlo
      refine WL.y (Yl.load on25 rfl (by repeat (first | exact Take1.head | apply Take1.tail)) a17) rfl ?_ -- t28
      refine WL.callC (xs := [.tmp 28]) (cap := []) rfl rfl en7 (by repeat (first | exact TakeL.nil | (apply TakeL.cons; · repeat (first | exact Take1.head | apply Take1.tail)))) (fun w hw => cloneD_any r.v ms (by omega) w (hw.src (A := []) RdOf.rd' (by repeat (first | exact Take1.head | apply Take1.tail))) hw.left.here) rfl ?_ -- t29 slices.Clone[[]hailer/api.Dev,hailer/api.Dev]
      rintro ⟨a29, c29⟩ -
      refine WL.y (Yl.assign rfl) rfl ?_ -- t5
      refine WL.nil ?_
      refine WC.seq ?_
      refine WC.region ?_
      refine WL.y (Yl.loadN ag27 rfl (by repeat (first | exact Take1.head | apply Take1.tail)) (by rw [Rs.len18 hg]; rfl) (rall hg)) rfl ?_ -- t31
      refine WL.y (Yl.move rfl) rfl ?_ -- t32
      refine WL.callC (xs := [.tmp 31, .tmp 32]) (cap := []) rfl rfl en8 (by repeat (first | exact TakeL.nil | (apply TakeL.cons; · repeat (first | exact Take1.head | apply Take1.tail)))) (fun w hw => with_any r hr ms l _ ho hlo (by omega) w (hw.src (A := []) RdOf.rd' (by repeat (first | exact Take1.head | apply Take1.tail))) (hw.src (A := []) RdOf.rd' (by repeat (first | exact Take1.head | apply Take1.tail))) hw.left.here) rfl ?_ -- t33 hailer/roster.With
      intro y33 hy33
      refine WL.y (Yl.move rfl) rfl ?_ -- t30
      refine WL.y (Yl.extract rfl rfl) rfl ?_ -- t34
      refine WL.y (Yl.extract rfl rfl) rfl ?_ -- t35
      refine WL.to (To.alloc (cs := Rs.zero.cells) zr27 rfl) rfl ?_ -- t6
      intro b6
      refine WL.sto (Sto.agg sz27 rfl rfl (by repeat (first | exact Take1.head | apply Take1.tail)) (outRs_one hy33.sl) (Rs.len18 (outRs_len hg)) (by rfl) (Rs.put (r := Rs.zero) rfl)) (fun _ h => nomatch h) ?_ -- st 1
      refine WL.y (Yl.assign rfl) rfl ?_ -- t7
      refine WL.nil ?_
      refine WC.seq ?_
      refine WC.region ?_
      refine WL.y (Yl.loadN ag27 rfl (by repeat (first | exact Take1.head | apply Take1.tail)) (by rw [Rs.len18 hg]; rfl) (rall hg)) rfl ?_ -- t37
      refine WL.y (Yl.move rfl) rfl ?_ -- t38
      refine WL.callC (xs := [.tmp 37, .tmp 38]) (cap := []) rfl rfl en9 (by repeat (first | exact TakeL.nil | (apply TakeL.cons; · repeat (first | exact Take1.head | apply Take1.tail)))) (fun w hw => without_any r hr ms l _ ho hlo (by omega) w (hw.src (A := []) RdOf.rd' (by repeat (first | exact Take1.head | apply Take1.tail))) (hw.src (A := []) RdOf.rd' (by repeat (first | exact Take1.head | apply Take1.tail))) hw.left.here) rfl ?_ -- t39 hailer/roster.Without
      intro y39 hy39
      refine WL.y (Yl.move rfl) rfl ?_ -- t36
      refine WL.y (Yl.extract rfl rfl) rfl ?_ -- t40
      refine WL.y (Yl.extract rfl rfl) rfl ?_ -- t41
      refine WL.to (To.alloc (cs := Rs.zero.cells) zr27 rfl) rfl ?_ -- t8
      intro b8
      refine WL.sto (Sto.agg sz27 rfl rfl (by repeat (first | exact Take1.head | apply Take1.tail)) (outRs_one hy39.sl) (Rs.len18 (outRs_len hg)) (by rfl) (Rs.put (r := Rs.zero) rfl)) (fun _ h => nomatch h) ?_ -- st 2
      refine WL.y (Yl.assign rfl) rfl ?_ -- t9
      refine WL.nil ?_
      refine WC.seq ?_
      refine WC.region ?_
      refine WL.y (Yl.loadN ag27 rfl (by repeat (first | exact Take1.head | apply Take1.tail)) (by rw [Rs.len18 hg]; rfl) (rall hg)) rfl ?_ -- t43
      refine WL.y (Yl.move rfl) rfl ?_ -- t44
      refine WL.callC (xs := [.tmp 43, .tmp 44, _]) (cap := []) rfl rfl en10 (by repeat (first | exact TakeL.nil | (apply TakeL.cons; · repeat (first | exact Take1.head | apply Take1.tail)))) (fun w hw => change_any true r hr ms l _ ho hlo (by omega) w (hw.src (A := []) RdOf.rd' (by repeat (first | exact Take1.head | apply Take1.tail))) (hw.src (A := []) RdOf.rd' (by repeat (first | exact Take1.head | apply Take1.tail))) hw.left.here) rfl ?_ -- t45 hailer/hailerref23.Change
      intro y45 hy45
      refine WL.y (Yl.move rfl) rfl ?_ -- t42
      refine WL.y (Yl.extract rfl rfl) rfl ?_ -- t46
      refine WL.y (Yl.extract rfl rfl) rfl ?_ -- t47
      refine WL.to (To.alloc (cs := Rs.zero.cells) zr27 rfl) rfl ?_ -- t10
      intro b10
      refine WL.sto (Sto.agg sz27 rfl rfl (by repeat (first | exact Take1.head | apply Take1.tail)) (outRs_one hy45.sl) (Rs.len18 (outRs_len hg)) (by rfl) (Rs.put (r := Rs.zero) rfl)) (fun _ h => nomatch h) ?_ -- st 3
      refine WL.y (Yl.assign rfl) rfl ?_ -- t11
      refine WL.nil ?_
      refine WC.seq ?_
      refine WC.region ?_
      refine WL.y (Yl.loadN ag27 rfl (by repeat (first | exact Take1.head | apply Take1.tail)) (by rw [Rs.len18 hg]; rfl) (rall hg)) rfl ?_ -- t49
      refine WL.y (Yl.move rfl) rfl ?_ -- t50
      refine WL.callC (xs := [.tmp 49, .tmp 50, _]) (cap := []) rfl rfl en10 (by repeat (first | exact TakeL.nil | (apply TakeL.cons; · repeat (first | exact Take1.head | apply Take1.tail)))) (fun w hw => change_any false r hr ms l _ ho hlo (by omega) w (hw.src (A := []) RdOf.rd' (by repeat (first | exact Take1.head | apply Take1.tail))) (hw.src (A := []) RdOf.rd' (by repeat (first | exact Take1.head | apply Take1.tail))) hw.left.here) rfl ?_ -- t51 hailer/hailerref23.Change
      intro y51 hy51
      refine WL.y (Yl.move rfl) rfl ?_ -- t48
      refine WL.y (Yl.extract rfl rfl) rfl ?_ -- t52
      refine WL.y (Yl.extract rfl rfl) rfl ?_ -- t53
      refine WL.to (To.alloc (cs := Rs.zero.cells) zr27 rfl) rfl ?_ -- t12
      intro b12
      refine WL.sto (Sto.agg sz27 rfl rfl (by repeat (first | exact Take1.head | apply Take1.tail)) (outRs_one hy51.sl) (Rs.len18 (outRs_len hg)) (by rfl) (Rs.put (r := Rs.zero) rfl)) (fun _ h => nomatch h) ?_ -- st 4
      refine WL.y (Yl.assign rfl) rfl ?_ -- t13
      refine WL.nil ?_
      refine WC.seq ?_
      refine WC.region ?_
      refine WL.fact (p := ∃ a c, y33 = .slice a (outMs true r.e ms l).length c ∧ (outMs true r.e ms l).length ≤ c) (fun w hw => by obtain ⟨a, c, e, hc, _⟩ := Rd.form (Sown.rd (hw.get (r := ownR y33 31 2 (outMs true r.e ms l).length (vcs Dv.val (outMs true r.e ms l))) (by repeat (first | exact Take1.head | apply Take1.tail)))); exact ⟨a, c, e, hc⟩) (fun hyf => ?_)
      obtain ⟨a33, c33, e33, hc33⟩ := hyf
      refine WL.y (Yl.field fo27_2 rfl) rfl ?_ -- t54
      refine WL.y (Yl.load on25 rfl (by repeat (first | exact Take1.head | apply Take1.tail)) (by have := Rs.at17 (r := outRs true r ms l y33) (outRs_len hg); rw [hy33.v] at this; exact this)) rfl ?_ -- t55
      refine WL.say (t := 55) (v' := subS (.slice a33 (outMs true r.e ms l).length c33) 0 (outMs true r.e ms l).length c33 2) rfl (by rw [sub0]; exact e33) ?_
      refine WL.view (fun w h => by rw [e33] at h; exact h) ?_
      refine WL.eff (Eff.clear sl25 (n := (outMs true r.e ms l).length) (i := 0) (cs' := []) (by intro u hu; simp [Value.cells] at hu; rcases hu with rfl | rfl <;> rfl) rfl (by repeat (first | exact Take1.head | apply Take1.tail)) (Nat.zero_le _) (by simp)) ?_
      refine WL.nil ?_
      refine WC.seq ?_
      refine WC.region ?_
      refine WL.y (Yl.loadN ag27 rfl (by repeat (first | exact Take1.head | apply Take1.tail)) (by rw [Rs.len18 hg]; rfl) (rall hg)) rfl ?_ -- t57
      refine WL.y (Yl.move rfl) rfl ?_ -- t58
      refine WL.callC (xs := [.tmp 57, .tmp 58]) (cap := []) rfl rfl en8 (by repeat (first | exact TakeL.nil | (apply TakeL.cons; · repeat (first | exact Take1.head | apply Take1.tail)))) (fun w hw => with_any r hr ms l _ ho hlo (by omega) w (hw.src (A := []) RdOf.rd' (by repeat (first | exact Take1.head | apply Take1.tail))) (hw.src (A := []) RdOf.rd' (by repeat (first | exact Take1.head | apply Take1.tail))) hw.left.here) rfl ?_ -- t59 hailer/roster.With
      intro y59 hy59
      refine WL.y (Yl.move rfl) rfl ?_ -- t56
      refine WL.y (Yl.extract rfl rfl) rfl ?_ -- t60
      refine WL.y (Yl.extract rfl rfl) rfl ?_ -- t61
      refine WL.to (To.alloc (cs := Rs.zero.cells) zr27 rfl) rfl ?_ -- t14
      intro b14
      refine WL.sto (Sto.agg sz27 rfl rfl (by repeat (first | exact Take1.head | apply Take1.tail)) (outRs_one hy59.sl) (Rs.len18 (outRs_len hg)) (by rfl) (Rs.put (r := Rs.zero) rfl)) (fun _ h => nomatch h) ?_ -- st 5
      refine WL.y (Yl.assign rfl) rfl ?_ -- t15
      refine WL.nil ?_
      refine WC.seq ?_
      refine WC.region ?_
      refine WL.y (Yl.loadN ag27 rfl (by repeat (first | exact Take1.head | apply Take1.tail)) (by rw [Rs.len18 (outRs_len hg)]; rfl) (rall (outRs_len hg))) rfl ?_ -- t62
      refine WL.y (Yl.loadN ag27 rfl (by repeat (first | exact Take1.head | apply Take1.tail)) (by rw [Rs.len18 (outRs_len hg)]; rfl) (rall (outRs_len hg))) rfl ?_ -- t63
      refine WL.callC (xs := [.tmp 62, .tmp 63]) (cap := []) rfl rfl en11 (by repeat (first | exact TakeL.nil | (apply TakeL.cons; · repeat (first | exact Take1.head | apply Take1.tail)))) (fun w hw => same_any (outRs true r ms l y59) (outRs true r ms l y45) (outMs true r.e ms l) (outMs true r.e ms l) (outRs_ok hr) (outRs_ok hr) (by omega) ow ow w (by rw [hy59.v]; exact hw.src (A := []) RdOf.own (by repeat (first | exact Take1.head | apply Take1.tail))) (by rw [hy45.v]; exact hw.src (A := []) RdOf.own (by repeat (first | exact Take1.head | apply Take1.tail))) hw.left.here) rfl ?_ -- t64 hailer/hailerref23.Same
      rintro ⟨⟩ -
      refine WL.know (t := 64) (b' := true) rfl (by rw [(outRs_ge (inn := true) (r := r) (ms := ms) (l := l) (y := y59) (z := y45)).1, (outRs_ge (inn := true) (r := r) (ms := ms) (l := l) (y := y59) (z := y45)).2]; simp) ?_
      refine WL.y (Yl.move rfl) rfl ?_ -- t65
      refine WL.on rfl rfl ?_
      refine WL.y (Yl.move rfl) rfl ?_ -- t66
      refine WL.on rfl rfl ?_
      refine WL.y (Yl.move rfl) rfl ?_ -- t67
      refine WL.on rfl rfl ?_
      refine WL.y (Yl.eql rfl rfl) rfl ?_ -- t68
      refine WL.know (t := 68) (b' := true) rfl (by first | rfl | (simp; done) | (simp; omega)) ?_
      refine WL.y (Yl.pickT rfl rfl) rfl ?_ -- t69
      refine WL.y (Yl.move rfl) rfl ?_ -- t70
      refine WL.on rfl rfl ?_
      refine WL.y (Yl.loadN ag27 rfl (by repeat (first | exact Take1.head | apply Take1.tail)) (by rw [Rs.len18 (outRs_len hg)]; rfl) (rall (outRs_len hg))) rfl ?_ -- t71
      refine WL.on rfl rfl ?_
      refine WL.y (Yl.loadN ag27 rfl (by repeat (first | exact Take1.head | apply Take1.tail)) (by rw [Rs.len18 (outRs_len hg)]; rfl) (rall (outRs_len hg))) rfl ?_ -- t72
      refine WL.on rfl rfl ?_
      refine WL.callC (xs := [.tmp 71, .tmp 72]) (cap := []) rfl rfl en11 (by repeat (first | exact TakeL.nil | (apply TakeL.cons; · repeat (first | exact Take1.head | apply Take1.tail)))) (fun w hw => same_any (outRs false r ms l y39) (outRs false r ms l y51) (outMs false r.e ms l) (outMs false r.e ms l) (outRs_ok hr) (outRs_ok hr) (by omega) ov ov w (by rw [hy39.v]; exact hw.src (A := []) RdOf.own (by repeat (first | exact Take1.head | apply Take1.tail))) (by rw [hy51.v]; exact hw.src (A := []) RdOf.own (by repeat (first | exact Take1.head | apply Take1.tail))) hw.left.here) rfl ?_ -- t73 hailer/hailerref23.Same
      rintro ⟨⟩ -
      refine WL.know (t := 73) (b' := true) rfl (by rw [(outRs_ge (inn := false) (r := r) (ms := ms) (l := l) (y := y39) (z := y51)).1, (outRs_ge (inn := false) (r := r) (ms := ms) (l := l) (y := y39) (z := y51)).2]; simp) ?_
      refine WL.y (Yl.pickT rfl rfl) rfl ?_ -- t74
      refine WL.y (Yl.move rfl) rfl ?_ -- t75
      refine WL.on rfl rfl ?_
      refine WL.y (Yl.move rfl) rfl ?_ -- t76
      refine WL.on rfl rfl ?_
      refine WL.y (Yl.move rfl) rfl ?_ -- t77
      refine WL.on rfl rfl ?_
      refine WL.y (Yl.eql rfl rfl) rfl ?_ -- t78
      refine WL.know (t := 78) (b' := true) rfl (by first | rfl | (simp; done) | (simp; omega)) ?_
      refine WL.y (Yl.pickT rfl rfl) rfl ?_ -- t79
      refine WL.y (Yl.move rfl) rfl ?_ -- t80
      refine WL.on rfl rfl ?_
      refine WL.y (Yl.move rfl) rfl ?_ -- t81
      refine WL.on rfl rfl ?_
      refine WL.y (Yl.field fo27_2 rfl) rfl ?_ -- t82
      refine WL.on rfl rfl ?_
      refine WL.y (Yl.load on25 rfl (by repeat (first | exact Take1.head | apply Take1.tail)) a17) rfl ?_ -- t83
      refine WL.on rfl rfl ?_
      refine WL.callC (xs := [.tmp 81, .tmp 83]) (cap := []) rfl rfl en12 (by repeat (first | exact TakeL.nil | (apply TakeL.cons; · repeat (first | exact Take1.head | apply Take1.tail)))) (fun w hw => equalD_any _ r.v ms ms ho ho (by omega) w (hw.src (A := []) RdOf.own (by repeat (first | exact Take1.head | apply Take1.tail))) (hw.src (A := []) RdOf.rd' (by repeat (first | exact Take1.head | apply Take1.tail))) hw.left.here) rfl ?_ -- t84 slices.Equal[[]hailer/api.Dev,hailer/api.Dev]
      rintro ⟨⟩ -
      refine WL.know (t := 84) (b' := true) rfl (by first | rfl | (simp; done) | (simp; omega)) ?_
      refine WL.y (Yl.pickT rfl rfl) rfl ?_ -- t85
      refine WL.y (Yl.assign rfl) rfl ?_ -- t4
      refine WL.nil ?_
      refine WC.ret ?_
      repeat (first | (with_reducible refine peelT ?_) | (with_reducible refine peelB ?_) | (with_reducible refine peelTX ?_) | (with_reducible refine peelBX ?_) | (with_reducible refine peelBN ?_) | (with_reducible refine peelBO rfl ?_))
      exact ret1 (.inr rfl) Try.results3 rfl fun w' h => ⟨(), trivial, rfl, h.sub (by repeat (first | exact TakeL.nil | (apply TakeL.cons; · repeat (first | exact Take1.head | apply Take1.tail))))⟩
end Go.Proofs.Ytfdnnlcfolgegaa
