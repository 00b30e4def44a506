/- Rosters: with devices, without them: the walks. -/
import Derived.Test.YtfdnnlcfolgegaaRosD
namespace Go.Proofs.Ytfdnnlcfolgegaa
open Go Go.RowKit

theorem ros16 {id : List Int} (h : id.length = 16) : ∃ a0 a1 a2 a3 a4 a5 a6 a7 a8 a9 a10 a11 a12 a13 a14 a15 : Int, id = [a0, a1, a2, a3, a4, a5, a6, a7, a8, a9, a10, a11, a12, a13, a14, a15] := by
  match id, h with
  | [a0, a1, a2, a3, a4, a5, a6, a7, a8, a9, a10, a11, a12, a13, a14, a15], _ => exact ⟨a0, a1, a2, a3, a4, a5, a6, a7, a8, a9, a10, a11, a12, a13, a14, a15, rfl⟩
theorem build_ro {g : List Int} (h : g.length = 16) (e : Int) (v : Value) (hv : ∃ ao n cap, v = .slice ao n cap) (w : World) :
    (Instr.build 27 [(0, .agg (ints .u8 g).toArray), (1, .int .u64 e), (2, v)].toArray).run Try.prog w = .ok (.agg (Rs.mk g e v).cells.toArray) w := by
  obtain ⟨a0, a1, a2, a3, a4, a5, a6, a7, a8, a9, a10, a11, a12, a13, a14, a15, rfl⟩ := ros16 h
  obtain ⟨ao, n, cap, rfl⟩ := hv
  kernel_rfl
def Rs.zero : Rs := ⟨List.replicate 16 0, 0, .slice none 0 0⟩
theorem Rs.zlen : Rs.zero.g.length = 16 := rfl
theorem Rs.put {r q : Rs} (hr : r.g.length = 16) : r.cells.take 0 ++ q.cells ++ r.cells.drop (0 + 18) = q.cells := by
  rw [List.take_zero, List.nil_append, List.drop_of_length_le (by rw [Rs.len18 hr]; omega), List.append_nil]
theorem sliceOne {v : Value} (h : ∃ ao n cap, v = .slice ao n cap) : v.oneCell' = true := by
  obtain ⟨ao, n, cap, rfl⟩ := h; rfl

theorem with1_any (v : Value) (ms : List Dv) (d : Dv) (hG : Good ms) (hd : d.ok) (hl : ms.length ≤ 1099511627776) (w : World) (hw : OK w (fpL [ownR v 31 2 ms.length (vcs Dv.val ms)]) [ownR v 31 2 ms.length (vcs Dv.val ms)] w) :
    Fn Try.prog 30 [v, d.val] [ownR v 31 2 ms.length (vcs Dv.val ms)] w (fun _ : Value => True) (fun y => .tuple #[y, .int .i64 (errF true ms d)]) (fun y => [ownR y 31 2 (nxtF true ms d).length (vcs Dv.val (nxtF true ms d))]) := by
  obtain ⟨ao, cap, rfl, hcap, hml⟩ := (hw.get .head : Sown _ _ _ _ _ _).rd.form
  refine enterF Try.func30 rfl Try.ntmps30 rfl hw ?_
  refine WC.seq ?_
  refine WC.region ?_
  refine WL.to (To.box (cs := d.cells) rfl rfl) rfl ?_ -- t3
  intro b3
  refine WL.y (Yl.assign rfl) rfl ?_ -- t4
  refine WL.y (Yl.assign rfl) rfl ?_ -- t5
  refine WL.nil ?_
  refine WC.seq ?_
  refine WC.region ?_
  refine WL.y (Yl.move rfl) rfl ?_ -- t9
  refine WL.y (Yl.loadN ag31 rfl (by repeat (first | exact Take1.head | apply Take1.tail)) (by rfl) (by rfl)) rfl ?_ -- t10
  refine WL.callC (xs := [.tmp 9, .tmp 10, .func 32]) (cap := []) rfl rfl en31 (by repeat (first | exact TakeL.nil | (apply TakeL.cons; · repeat (first | exact Take1.head | apply Take1.tail)))) (fun w hw => bsf_any ao cap ms d hl hG hd w (hw.src (A := []) RdOf.own (by repeat (first | exact Take1.head | apply Take1.tail))) hw.left.here) rfl ?_ -- t11 slices.BinarySearchFunc[[]hailer/api.Dev,hailer/api.Dev,hailer/api.Dev]
  rintro ⟨⟩ -
  refine WL.y (Yl.move rfl) rfl ?_ -- t8
  refine WL.y (Yl.extract rfl rfl) rfl ?_ -- t12
  refine WL.y (Yl.extract rfl rfl) rfl ?_ -- t13
  refine WL.y (Yl.assign rfl) rfl ?_ -- t6
  refine WL.y (Yl.assign rfl) rfl ?_ -- t7
  refine WL.nil ?_
  refine WC.seq ?_
  refine WC.seq ?_
  refine WC.region ?_
  refine WL.y (Yl.move rfl) rfl ?_ -- t14
  refine WL.nil ?_
  refine WC.cond rfl (fun g14 => ?_) (fun g14 => ?_)
  · refine WC.seq ?_
    refine WC.region ?_
    refine WL.y (Yl.assign rfl) rfl ?_ -- t4
    refine WL.y (Yl.assign rfl) rfl ?_ -- t5
    refine WL.nil ?_
    refine WC.ret ?_
    repeat (first | (with_reducible refine peelT ?_) | (with_reducible refine peelB ?_) | (with_reducible refine peelTX ?_) | (with_reducible refine peelBX ?_) | (with_reducible refine peelBN ?_) | (with_reducible refine peelBO rfl ?_))
    refine ret2 (.inr rfl) Try.results30 rfl rfl fun w' h => ⟨.slice none 0 0, trivial, by unfold errF; rw [g14]; rfl, ?_⟩
    have e : nxtF true ms d = [] := by unfold nxtF; rw [g14]; rfl
    rw [e]
    exact (h.addNil 31 2).sub (by repeat (first | exact TakeL.nil | (apply TakeL.cons; · repeat (first | exact Take1.head | apply Take1.tail))))
  · refine WC.skip ?_
    refine WC.seq ?_
    refine WC.region ?_
    refine WL.y (Yl.move rfl) rfl ?_ -- t15
    refine WL.y (Yl.move rfl) rfl ?_ -- t16
    refine WL.y (Yl.loadN ag31 rfl (by repeat (first | exact Take1.head | apply Take1.tail)) (by rfl) (by rfl)) rfl ?_ -- t17
    refine WL.to (To.buildSlice (vs := [.agg d.cells.toArray]) un25 zs31 rfl rfl (by intro u hu; simp at hu; subst hu; rfl) (by decide) (by decide)) rfl ?_ -- t18
    intro b18
    rw [show flat [Value.agg d.cells.toArray] = d.cells from rfl]
    refine WL.callC (xs := [.tmp 15, .tmp 16, .tmp 18]) (cap := []) rfl rfl en33 (by repeat (first | exact TakeL.nil | (apply TakeL.cons; · repeat (first | exact Take1.head | apply Take1.tail)))) (fun w hw => insD_any ao cap ms d (posF ms d) b18 hl (pos_le ms d) w hw.left.here) rfl ?_ -- t19 slices.Insert[[]hailer/api.Dev,hailer/api.Dev]
    rintro ⟨a19, c19⟩ -
    refine WL.y (Yl.assign rfl) rfl ?_ -- t4
    refine WL.y (Yl.assign rfl) rfl ?_ -- t5
    refine WL.nil ?_
    refine WC.ret ?_
    repeat (first | (with_reducible refine peelT ?_) | (with_reducible refine peelB ?_) | (with_reducible refine peelTX ?_) | (with_reducible refine peelBX ?_) | (with_reducible refine peelBN ?_) | (with_reducible refine peelBO rfl ?_))
    have e : nxtF true ms d = insF ms d := by unfold nxtF; rw [g14]; rfl
    refine ret2 (.inr rfl) Try.results30 rfl rfl fun w' h => ⟨.slice a19 (ms.length + 1) c19, trivial, by unfold errF; rw [g14]; rfl, ?_⟩
    rw [e, ins_len]
    exact h.sub (by repeat (first | exact TakeL.nil | (apply TakeL.cons; · repeat (first | exact Take1.head | apply Take1.tail))))
theorem without1_any (v : Value) (ms : List Dv) (d : Dv) (hG : Good ms) (hd : d.ok) (hl : ms.length ≤ 1099511627776) (w : World) (hw : OK w (fpL [ownR v 31 2 ms.length (vcs Dv.val ms)]) [ownR v 31 2 ms.length (vcs Dv.val ms)] w) :
    Fn Try.prog 34 [v, d.val] [ownR v 31 2 ms.length (vcs Dv.val ms)] w (fun _ : Value => True) (fun y => .tuple #[y, .int .i64 (errF false ms d)]) (fun y => [ownR y 31 2 (nxtF false ms d).length (vcs Dv.val (nxtF false ms d))]) := by
  obtain ⟨ao, cap, rfl, hcap, hml⟩ := (hw.get .head : Sown _ _ _ _ _ _).rd.form
  refine enterF Try.func34 rfl Try.ntmps34 rfl hw ?_
  refine WC.seq ?_
  refine WC.region ?_
  refine WL.to (To.box (cs := d.cells) rfl rfl) rfl ?_ -- t3
  intro b3
  refine WL.y (Yl.assign rfl) rfl ?_ -- t4
  refine WL.y (Yl.assign rfl) rfl ?_ -- t5
  refine WL.nil ?_
  refine WC.seq ?_
  refine WC.region ?_
  refine WL.y (Yl.move rfl) rfl ?_ -- t9
  refine WL.y (Yl.loadN ag31 rfl (by repeat (first | exact Take1.head | apply Take1.tail)) (by rfl) (by rfl)) rfl ?_ -- t10
  refine WL.callC (xs := [.tmp 9, .tmp 10, .func 32]) (cap := []) rfl rfl en31 (by repeat (first | exact TakeL.nil | (apply TakeL.cons; · repeat (first | exact Take1.head | apply Take1.tail)))) (fun w hw => bsf_any ao cap ms d hl hG hd w (hw.src (A := []) RdOf.own (by repeat (first | exact Take1.head | apply Take1.tail))) hw.left.here) rfl ?_ -- t11 slices.BinarySearchFunc[[]hailer/api.Dev,hailer/api.Dev,hailer/api.Dev]
  rintro ⟨⟩ -
  refine WL.y (Yl.move rfl) rfl ?_ -- t8
  refine WL.y (Yl.extract rfl rfl) rfl ?_ -- t12
  refine WL.y (Yl.extract rfl rfl) rfl ?_ -- t13
  refine WL.y (Yl.assign rfl) rfl ?_ -- t6
  refine WL.y (Yl.assign rfl) rfl ?_ -- t7
  refine WL.nil ?_
  refine WC.seq ?_
  refine WC.seq ?_
  refine WC.region ?_
  refine WL.y (Yl.move rfl) rfl ?_ -- t14
  refine WL.y (Yl.not rfl) rfl ?_ -- t15
  refine WL.nil ?_
  refine WC.cond rfl (fun g15 => ?_) (fun g15 => ?_)
  · refine WC.seq ?_
    refine WC.region ?_
    refine WL.y (Yl.assign rfl) rfl ?_ -- t4
    refine WL.y (Yl.assign rfl) rfl ?_ -- t5
    refine WL.nil ?_
    refine WC.ret ?_
    repeat (first | (with_reducible refine peelT ?_) | (with_reducible refine peelB ?_) | (with_reducible refine peelTX ?_) | (with_reducible refine peelBX ?_) | (with_reducible refine peelBN ?_) | (with_reducible refine peelBO rfl ?_))
    have g14 : inF ms d = false := by simpa using g15
    refine ret2 (.inr rfl) Try.results34 rfl rfl fun w' h => ⟨.slice none 0 0, trivial, by unfold errF; rw [g14]; rfl, ?_⟩
    have e : nxtF false ms d = [] := by unfold nxtF; rw [g14]; rfl
    rw [e]
    exact (h.addNil 31 2).sub (by repeat (first | exact TakeL.nil | (apply TakeL.cons; · repeat (first | exact Take1.head | apply Take1.tail))))
  · refine WC.skip ?_
    refine WC.seq ?_
    refine WC.region ?_
    have g14 : inF ms d = true := by simpa using g15
    have hm : d ∈ ms := of_decide_eq_true g14
    have hpl := (List.getElem?_eq_some_iff.1 (pos_at hG.up hG.ok hm)).1
    refine WL.y (Yl.move rfl) rfl ?_ -- t16
    refine WL.y (Yl.move rfl) rfl ?_ -- t17
    refine WL.y (Yl.move rfl) rfl ?_ -- t18
    refine WL.y (Yl.add rfl rfl (IntWalk.i64_in _ (by omega))) rfl ?_ -- t19
    refine WL.say (t := 19) (v' := .int .i64 ((posF ms d + 1 : Nat) : Int)) rfl (by rfl) ?_
    refine WL.callC (xs := [.tmp 16, .tmp 17, .tmp 19]) (cap := []) rfl rfl en35 (by repeat (first | exact TakeL.nil | (apply TakeL.cons; · repeat (first | exact Take1.head | apply Take1.tail)))) (fun w hw => delD_any ao cap ms (posF ms d) hl hpl w hw.left.here) rfl ?_ -- t20 slices.Delete[[]hailer/api.Dev,hailer/api.Dev]
    rintro ⟨⟩ -
    refine WL.y (Yl.assign rfl) rfl ?_ -- t4
    refine WL.y (Yl.assign rfl) rfl ?_ -- t5
    refine WL.nil ?_
    refine WC.ret ?_
    repeat (first | (with_reducible refine peelT ?_) | (with_reducible refine peelB ?_) | (with_reducible refine peelTX ?_) | (with_reducible refine peelBX ?_) | (with_reducible refine peelBN ?_) | (with_reducible refine peelBO rfl ?_))
    have e : nxtF false ms d = delF ms d := by unfold nxtF; rw [g14]; rfl
    refine ret2 (.inr rfl) Try.results34 rfl rfl fun w' h => ⟨.slice ao (ms.length - 1) cap, trivial, by unfold errF; rw [g14]; rfl, ?_⟩
    have hdl := del_len hG.up hG.ok hm
    rw [e, show (delF ms d).length = ms.length - 1 by omega]
    exact h.sub (by repeat (first | exact TakeL.nil | (apply TakeL.cons; · repeat (first | exact Take1.head | apply Take1.tail))))

/-! ### All of a list -/
def IsSl (y : Value) : Prop := ∃ ao n cap, y = .slice ao n cap
def codeF (inn : Bool) (e : Int) (ms l : List Dv) : Int := if !(mayF e ms && !l.any Dv.big) then 2 else if (runF inn ms l).1 ≠ 0 then (runF inn ms l).1 else if e = 1099511627776 then 7 else 0
def outMs (inn : Bool) (e : Int) (ms l : List Dv) : List Dv := if codeF inn e ms l = 0 then (runF inn ms l).2 else []
def outRs (inn : Bool) (r : Rs) (ms l : List Dv) (y : Value) : Rs := if codeF inn r.e ms l = 0 then ⟨r.g, r.e + 1, y⟩ else Rs.zero
/-- The members' slice is the roster's own. -/
structure OutOk (inn : Bool) (r : Rs) (ms l : List Dv) (y : Value) : Prop where
  sl : IsSl y
  v : (outRs inn r ms l y).v = y
theorem mayF_iff {e : Int} {ms : List Dv} (ho : DOk ms) : mayF e ms = true ↔ 1 ≤ e ∧ e ≤ 1099511627776 ∧ ms.length ≤ 32 ∧ ms.any Dv.big = false ∧ Good ms := by
  unfold mayF
  simp only [Bool.and_eq_true, Bool.not_eq_true', decide_eq_false_iff_not]
  rw [up_iff ho]
  constructor
  · rintro ⟨⟨⟨⟨a, b⟩, c⟩, d⟩, f⟩
    exact ⟨by omega, by omega, by omega, d, f, ho⟩
  · rintro ⟨a, b, c, d, f, _⟩
    exact ⟨⟨⟨⟨by omega, by omega⟩, by omega⟩, d⟩, f⟩

set_option maxRecDepth 100000 in
theorem next_any (inn : Bool) (f : FuncId) (hen : ∀ args w, (callFunc f args).run Try.prog w = .ok (.enter f args) w) (hdoes : ∀ (w : World) (v : Value) (ms : List Dv) (d : Dv), Good ms → d.ok → ms.length ≤ 1099511627776 → OK w (fpL [ownR v 31 2 ms.length (vcs Dv.val ms)]) [ownR v 31 2 ms.length (vcs Dv.val ms)] w → Fn Try.prog f [v, d.val] [ownR v 31 2 ms.length (vcs Dv.val ms)] w (fun _ : Value => True) (fun y => .tuple #[y, .int .i64 (errF inn ms d)]) (fun y => [ownR y 31 2 (nxtF inn ms d).length (vcs Dv.val (nxtF inn ms d))])) (r : Rs) (hr : r.ok) (ms l : List Dv) (lv : Value) (ho : DOk ms) (hlo : DOk l) (hsz : ms.length + l.length ≤ 1099511627776) (w : World)
    (hx : RdS w (fpL []) r.v 2 ms.length (vcs Dv.val ms)) (hy : RdS w (fpL []) lv 2 l.length (vcs Dv.val l)) (hw : OK w (fpL []) [] w) :
    Fn Try.prog 29 [.agg r.cells.toArray, lv, .func (.func f) #[] #[]] [] w (OutOk inn r ms l) (fun y => .tuple #[.agg (outRs inn r ms l y).cells.toArray, .int .i64 (codeF inn r.e ms l)])
      (fun y => [ownR y 31 2 (outMs inn r.e ms l).length (vcs Dv.val (outMs inn r.e ms l))]) := by
  have hg := hr.len
  obtain ⟨ao, cap, hv, hcap, hml⟩ := hx.rd.form
  obtain ⟨bo, cap2, rfl, hcap2, hml2⟩ := hy.rd.form
  have a16 := Rs.at16 hg
  have a17 := Rs.at17 hg
  refine enterF Try.func29 rfl Try.ntmps29 rfl hw ?_
  refine WC.seq ?_
  refine WC.region ?_
  refine WL.to (To.box (cs := r.cells) rfl rfl) rfl ?_ -- t3
  intro b3
  refine WL.to (To.alloc (cs := Rs.zero.cells) zr27 rfl) rfl ?_ -- t6
  intro b6
  refine WL.y (Yl.assign rfl) rfl ?_ -- t7
  refine WL.nil ?_
  refine WC.seq ?_
  refine WC.seq ?_
  refine WC.region ?_
  refine WL.y (Yl.loadN ag27 rfl (by repeat (first | exact Take1.head | apply Take1.tail)) (by rw [Rs.len18 hg]; rfl) (show (r.cells.drop 0).take 18 = r.cells by rw [List.drop_zero, List.take_of_length_le (by rw [Rs.len18 hg]; omega)])) rfl ?_ -- t12
  refine WL.callC (xs := [.tmp 12]) (cap := []) rfl rfl en16 (by repeat (first | exact TakeL.nil | (apply TakeL.cons; · repeat (first | exact Take1.head | apply Take1.tail)))) (fun w hw => may_any r ms hg (by omega) w (hw.srcS (A := []) hx) hw.left.here) rfl ?_ -- t13 hailer/roster.May
  rintro ⟨⟩ -
  refine WL.y (Yl.not rfl) rfl ?_ -- t14
  refine WL.y (Yl.move rfl) rfl ?_ -- t15
  refine WL.both (t := 15) rfl (fun g15 => ?_) (fun g15 => ?_)
  · refine WL.off rfl rfl rfl rfl ?_ -- t16
    refine WL.off rfl rfl rfl rfl ?_ -- t17
    refine WL.off rfl rfl rfl rfl ?_ -- t18
    refine WL.y (Yl.pickT rfl rfl) rfl ?_ -- t19
    refine WL.nil ?_
    refine WC.condT rfl (by first | rfl | (simp; done) | (simp; omega)) ?_
    refine WC.seq ?_
    refine WC.region ?_
    refine WL.y (Yl.build rfl (cs := Rs.zero.cells) (fun _ => by kernel_rfl)) rfl ?_ -- t20
    refine WL.sto (Sto.agg sz27 rfl rfl (by repeat (first | exact Take1.head | apply Take1.tail)) (Rs.one rfl) rfl (by rfl) (Rs.put (r := Rs.zero) (q := Rs.zero) rfl)) (fun _ h => nomatch h) ?_ -- st 1
    refine WL.y (Yl.assign rfl) rfl ?_ -- t7
    refine WL.nil ?_
    refine WC.ret ?_
    repeat (first | (with_reducible refine peelT ?_) | (with_reducible refine peelB ?_) | (with_reducible refine peelTX ?_) | (with_reducible refine peelBX ?_) | (with_reducible refine peelBN ?_) | (with_reducible refine peelBO rfl ?_))
    have hc : codeF inn r.e ms l = 2 := by unfold codeF; rw [show mayF r.e ms = false by simpa using g15]; rfl
    refine retC2 (cs := Rs.zero.cells) (.inr rfl) Try.results29 ag27 rfl rfl (by repeat (first | exact Take1.head | apply Take1.tail)) (Rs.len18 rfl) fun w' h => ⟨.slice none 0 0, ⟨⟨_, _, _, rfl⟩, by unfold outRs; rw [hc]; rfl⟩, by unfold outRs; rw [hc]; rfl, ?_⟩
    rw [show outMs inn r.e ms l = [] by unfold outMs; rw [hc]; rfl]
    exact (h.addNil 31 2).sub (by repeat (first | exact TakeL.nil | (apply TakeL.cons; · repeat (first | exact Take1.head | apply Take1.tail))))
  · refine WL.on rfl rfl ?_
    refine WL.y (Yl.move rfl) rfl ?_ -- t16
    refine WL.on rfl rfl ?_
    refine WL.callC (xs := [.tmp 16]) (cap := []) rfl rfl en39 (by repeat (first | exact TakeL.nil | (apply TakeL.cons; · repeat (first | exact Take1.head | apply Take1.tail)))) (fun w hw => small_any (.slice bo l.length cap2) l (by omega) w (hw.srcS (A := []) hy) hw.left.here) rfl ?_ -- t17 hailer/roster.small
    rintro ⟨⟩ -
    refine WL.on rfl rfl ?_
    refine WL.y (Yl.not rfl) rfl ?_ -- t18
    refine WL.y (Yl.pickF rfl rfl) rfl ?_ -- t19
    refine WL.nil ?_
    refine WC.cond rfl (fun g19 => ?_) (fun g19 => ?_)
    · refine WC.seq ?_
      refine WC.region ?_
      refine WL.y (Yl.build rfl (cs := Rs.zero.cells) (fun _ => by kernel_rfl)) rfl ?_ -- t20
      refine WL.sto (Sto.agg sz27 rfl rfl (by repeat (first | exact Take1.head | apply Take1.tail)) (Rs.one rfl) rfl (by rfl) (Rs.put (r := Rs.zero) (q := Rs.zero) rfl)) (fun _ h => nomatch h) ?_ -- st 1
      refine WL.y (Yl.assign rfl) rfl ?_ -- t7
      refine WL.nil ?_
      refine WC.ret ?_
      repeat (first | (with_reducible refine peelT ?_) | (with_reducible refine peelB ?_) | (with_reducible refine peelTX ?_) | (with_reducible refine peelBX ?_) | (with_reducible refine peelBN ?_) | (with_reducible refine peelBO rfl ?_))
      have hc : codeF inn r.e ms l = 2 := by unfold codeF; rw [show l.any Dv.big = true by simpa using g19]; simp
      refine retC2 (cs := Rs.zero.cells) (.inr rfl) Try.results29 ag27 rfl rfl (by repeat (first | exact Take1.head | apply Take1.tail)) (Rs.len18 rfl) fun w' h => ⟨.slice none 0 0, ⟨⟨_, _, _, rfl⟩, by unfold outRs; rw [hc]; rfl⟩, by unfold outRs; rw [hc]; rfl, ?_⟩
      rw [show outMs inn r.e ms l = [] by unfold outMs; rw [hc]; rfl]
      exact (h.addNil 31 2).sub (by repeat (first | exact TakeL.nil | (apply TakeL.cons; · repeat (first | exact Take1.head | apply Take1.tail))))
    · refine WC.skip ?_
      refine WC.seq ?_
      have hmay : mayF r.e ms = true := by simpa using g15
      have hsm : l.any Dv.big = false := by simpa using g19
      have hm0 := (mayF_iff ho).1 hmay
      have hgood := hm0.2.2.2.2
      have hcode : codeF inn r.e ms l = if (runF inn ms l).1 ≠ 0 then (runF inn ms l).1 else if r.e = 1099511627776 then 7 else 0 := by unfold codeF; rw [hmay, hsm]; rfl
      refine WC.region ?_
      refine WL.y (Yl.field fo27_2 rfl) rfl ?_ -- t21
      refine WL.y (Yl.load on25 rfl (by repeat (first | exact Take1.head | apply Take1.tail)) a17) rfl ?_ -- t22
      refine WL.callC (xs := [.tmp 22]) (cap := []) rfl rfl en7 (by repeat (first | exact TakeL.nil | (apply TakeL.cons; · repeat (first | exact Take1.head | apply Take1.tail)))) (fun w hw => cloneD_any r.v ms (by omega) w (hw.srcS (A := []) hx) hw.left.here) rfl ?_ -- t23 slices.Clone[[]hailer/api.Dev,hailer/api.Dev]
      rintro ⟨a23, c23⟩ -
      refine WL.y (Yl.assign rfl) rfl ?_ -- t8
      refine WL.nil ?_
      refine WC.seq ?_
      refine WC.seq ?_
      refine WC.region ?_
      refine WL.y (Yl.move rfl) rfl ?_ -- t24
      refine WL.y (Yl.len un25 rfl) rfl ?_ -- t25
      refine WL.y (Yl.move rfl) rfl ?_ -- t26
      refine WL.nil ?_
      refine WC.block ?_
      refine WC.loop (α := Nat × List Dv × Value) (fun k => [(2, .func (.func f) #[] #[]), (3, .pointer (some ⟨b3, 0, none⟩)), (6, .pointer (some ⟨b6, 0, none⟩)), (7, .int .i64 0), (8, k.2.2), (24, .slice bo l.length cap2), (25, .int .i64 (l.length : Int)), (26, .int .i64 (k.1 : Int))]) (fun k => [blkR b3 27 r.cells, blkR b6 27 Rs.zero.cells, ownR k.2.2 31 2 k.2.1.length (vcs Dv.val k.2.1)])
        (fun k => k.1 ≤ l.length ∧ Good k.2.1 ∧ k.2.1.length ≤ ms.length + k.1 ∧ runF inn ms l = runF inn k.2.1 (l.drop k.1)) (fun k => l.length - k.1) (0, ms, .slice a23 ms.length c23) ⟨Nat.zero_le _, hgood, Nat.le_refl _, rfl⟩ ⟨(by repeat (first | exact Sub.nil | refine Sub.cons rfl ?_)), _, (by repeat (first | exact TakeL.nil | (apply TakeL.cons; · repeat (first | exact Take1.head | apply Take1.tail))))⟩ ?_
      rintro ⟨k, cur, cv⟩ ⟨hk, hgc, hcl, hrun⟩
      dsimp only at hk hgc hcl hrun ⊢
      refine WC.seq ?_
      refine WC.region ?_
      refine WL.y (Yl.lss rfl rfl) rfl ?_ -- t27
      refine WL.nil ?_
      refine WC.seq ?_
      refine WC.condD rfl (fun g27 => ?_) (fun g27 => ?_)
      · refine WC.skip ?_
        refine WC.seq ?_
        refine WC.block ?_
        refine WC.seq ?_
        obtain ⟨d, hdd⟩ : ∃ d, l[k]? = some d := ⟨_, List.getElem?_eq_getElem (by omega)⟩
        have hdo := hlo d (List.mem_of_getElem? hdd)
        have hdr : l.drop k = d :: l.drop (k + 1) := by
          obtain ⟨q1, q2⟩ := List.getElem?_eq_some_iff.1 hdd
          rw [List.drop_eq_getElem_cons q1, q2]
        have hstep : runF inn cur (l.drop k) = if errF inn cur d ≠ 0 then (errF inn cur d, []) else runF inn (nxtF inn cur d) (l.drop (k + 1)) := by rw [hdr]; rfl
        refine WC.region ?_
        refine WL.y (Yl.index un25 sz31 rfl rfl (Reads.s hy) rfl (by omega)) rfl ?_ -- t28
        refine WL.y (Yl.loadV (j := k) (u := d) dvV dvAll rfl (Reads.s hy) rfl hdd) rfl ?_
        refine WL.to (To.alloc (cs := [.int .u8 0, .int .u8 0]) zr31 rfl) rfl ?_ -- t10
        intro b10
        refine WL.sto (Sto.agg sz31 rfl rfl (by repeat (first | exact Take1.head | apply Take1.tail)) (Dv.ones d) rfl (by rfl) (show _ = d.cells from rfl)) (fun _ h => nomatch h) ?_ -- st 2
        refine WL.nil ?_
        refine WC.seq ?_
        refine WC.region ?_
        refine WL.y (Yl.assign rfl) rfl ?_ -- t11
        refine WL.nil ?_
        refine WC.seq ?_
        refine WC.region ?_
        refine WL.y (Yl.move rfl) rfl ?_ -- t31
        refine WL.y (Yl.move rfl) rfl ?_ -- t32
        refine WL.y (Yl.loadN ag31 rfl (by repeat (first | exact Take1.head | apply Take1.tail)) (by rfl) (by rfl)) rfl ?_ -- t33
        refine WL.callC (f := .tmp 31) (xs := [.tmp 32, .tmp 33]) (cap := []) rfl rfl hen (by repeat (first | exact TakeL.nil | (apply TakeL.cons; · repeat (first | exact Take1.head | apply Take1.tail)))) (fun w hw => hdoes w cv cur d hgc hdo (by omega) hw.left.here) rfl ?_ -- t34
        rintro y34 -
        refine WL.y (Yl.move rfl) rfl ?_ -- t30
        refine WL.y (Yl.extract rfl rfl) rfl ?_ -- t35
        refine WL.y (Yl.extract rfl rfl) rfl ?_ -- t36
        refine WL.y (Yl.assign rfl) rfl ?_ -- t8
        refine WL.y (Yl.assign rfl) rfl ?_ -- t11
        refine WL.nil ?_
        refine WC.seq ?_
        refine WC.region ?_
        refine WL.y (Yl.move rfl) rfl ?_ -- t37
        refine WL.y (Yl.neq rfl rfl) rfl ?_ -- t38
        refine WL.nil ?_
        refine WC.condD rfl (fun g38 => ?_) (fun g38 => ?_)
        · refine WC.seq ?_
          refine WC.region ?_
          refine WL.y (Yl.build rfl (cs := Rs.zero.cells) (fun _ => by kernel_rfl)) rfl ?_ -- t39
          refine WL.y (Yl.move rfl) rfl ?_ -- t40
          refine WL.sto (Sto.agg sz27 rfl rfl (by repeat (first | exact Take1.head | apply Take1.tail)) (Rs.one rfl) rfl (by rfl) (Rs.put (r := Rs.zero) (q := Rs.zero) rfl)) (fun _ h => nomatch h) ?_ -- st 3
          refine WL.y (Yl.assign rfl) rfl ?_ -- t7
          refine WL.nil ?_
          refine WC.ret ?_
          repeat (first | (with_reducible refine peelT ?_) | (with_reducible refine peelB ?_) | (with_reducible refine peelTX ?_) | (with_reducible refine peelBX ?_) | (with_reducible refine peelBN ?_) | (with_reducible refine peelBO rfl ?_))
          have hc : codeF inn r.e ms l = errF inn cur d := by rw [hcode, hrun, hstep, if_pos g38]; exact if_pos g38
          refine retC2 (cs := Rs.zero.cells) (.inr rfl) Try.results29 ag27 rfl rfl (by repeat (first | exact Take1.head | apply Take1.tail)) (Rs.len18 rfl) fun w' h => ⟨.slice none 0 0, ⟨⟨_, _, _, rfl⟩, by unfold outRs; rw [hc, if_neg g38]; rfl⟩, by unfold outRs; rw [hc, if_neg g38]; rfl, ?_⟩
          rw [show outMs inn r.e ms l = [] by unfold outMs; rw [hc, if_neg g38]]
          exact (h.addNil 31 2).sub (by repeat (first | exact TakeL.nil | (apply TakeL.cons; · repeat (first | exact Take1.head | apply Take1.tail))))
        · refine WC.skip ?_
          refine WC.region ?_
          refine WL.y (Yl.add rfl rfl (IntWalk.i64_in _ (by omega))) rfl ?_ -- t41
          refine WL.y (Yl.move rfl) rfl ?_ -- t26
          refine WL.nil ?_
          exact ⟨rfl, (k + 1, nxtF inn cur d, y34), ⟨by dsimp only; omega, nxt_good hgc hdo, by have := nxt_len (inn := inn) (xs := cur) (d := d); dsimp only; omega, by rw [hrun, hstep, if_neg g38]⟩, by dsimp only; omega, (by repeat (first | exact Sub.nil | refine Sub.cons rfl ?_)), _, (by repeat (first | exact TakeL.nil | (apply TakeL.cons; · repeat (first | exact Take1.head | apply Take1.tail))))⟩
      · refine WC.exit ?_
        refine WC.seq ?_
        refine WC.seq ?_
        have hkn : k = l.length := by omega
        have hrun2 : runF inn ms l = (0, cur) := by rw [hrun, hkn, List.drop_length]; rfl
        rw [hrun2] at hcode
        refine WC.region ?_
        refine WL.y (Yl.field fo27_1 rfl) rfl ?_ -- t42
        refine WL.y (Yl.load on24 rfl (by repeat (first | exact Take1.head | apply Take1.tail)) a16) rfl ?_ -- t43
        refine WL.y (Yl.eql rfl rfl) rfl ?_ -- t44
        refine WL.nil ?_
        refine WC.condD rfl (fun g44 => ?_) (fun g44 => ?_)
        · refine WC.seq ?_
          refine WC.region ?_
          refine WL.y (Yl.build rfl (cs := Rs.zero.cells) (fun _ => by kernel_rfl)) rfl ?_ -- t45
          refine WL.sto (Sto.agg sz27 rfl rfl (by repeat (first | exact Take1.head | apply Take1.tail)) (Rs.one rfl) rfl (by rfl) (Rs.put (r := Rs.zero) (q := Rs.zero) rfl)) (fun _ h => nomatch h) ?_ -- st 4
          refine WL.y (Yl.assign rfl) rfl ?_ -- t7
          refine WL.nil ?_
          refine WC.ret ?_
          repeat (first | (with_reducible refine peelT ?_) | (with_reducible refine peelB ?_) | (with_reducible refine peelTX ?_) | (with_reducible refine peelBX ?_) | (with_reducible refine peelBN ?_) | (with_reducible refine peelBO rfl ?_))
          have hc : codeF inn r.e ms l = 7 := by rw [hcode, if_neg (by simp), if_pos g44]
          refine retC2 (cs := Rs.zero.cells) (.inr rfl) Try.results29 ag27 rfl rfl (by repeat (first | exact Take1.head | apply Take1.tail)) (Rs.len18 rfl) fun w' h => ⟨.slice none 0 0, ⟨⟨_, _, _, rfl⟩, by unfold outRs; rw [hc]; rfl⟩, by unfold outRs; rw [hc]; rfl, ?_⟩
          rw [show outMs inn r.e ms l = [] by unfold outMs; rw [hc]; rfl]
          exact (h.addNil 31 2).sub (by repeat (first | exact TakeL.nil | (apply TakeL.cons; · repeat (first | exact Take1.head | apply Take1.tail))))
        · refine WC.skip ?_
          refine WC.seq ?_
          refine WC.region ?_
          refine WL.fact (p := ∃ ao n cap, cv = .slice ao n cap) (fun w hw => by obtain ⟨p, q, e, _⟩ := Rd.form (Sown.rd (hw.get (r := ownR cv 31 2 cur.length (vcs Dv.val cur)) (by repeat (first | exact Take1.head | apply Take1.tail)))); exact ⟨p, _, q, e⟩) (fun hcv => ?_)
          refine WL.y (Yl.field fo27_0 rfl) rfl ?_ -- t46
          refine WL.y (Yl.loadN ag23 rfl (by repeat (first | exact Take1.head | apply Take1.tail)) (by rw [Rs.len18 hg]; rfl) (Rs.grp hg)) rfl ?_ -- t47
          refine WL.y (Yl.field fo27_1 rfl) rfl ?_ -- t48
          refine WL.y (Yl.load on24 rfl (by repeat (first | exact Take1.head | apply Take1.tail)) a16) rfl ?_ -- t49
          refine WL.y (Yl.add rfl rfl rfl) rfl ?_ -- t50
          refine WL.say (t := 50) (v' := .int .u64 (r.e + 1)) rfl (by rw [u64_in _ (by omega)]) ?_
          refine WL.y (Yl.move rfl) rfl ?_ -- t51
          refine WL.y (Yl.build rfl (cs := (Rs.mk r.g (r.e + 1) cv).cells) (build_ro hg _ _ hcv)) rfl ?_ -- t52
          refine WL.sto (Sto.agg sz27 rfl rfl (by repeat (first | exact Take1.head | apply Take1.tail)) (Rs.one (sliceOne hcv)) (Rs.len18 hg) (by rfl) (Rs.put (r := Rs.zero) rfl)) (fun _ h => nomatch h) ?_ -- st 5
          refine WL.y (Yl.assign rfl) rfl ?_ -- t7
          refine WL.nil ?_
          refine WC.ret ?_
          repeat (first | (with_reducible refine peelT ?_) | (with_reducible refine peelB ?_) | (with_reducible refine peelTX ?_) | (with_reducible refine peelBX ?_) | (with_reducible refine peelBN ?_) | (with_reducible refine peelBO rfl ?_))
          have hc : codeF inn r.e ms l = 0 := by rw [hcode, if_neg (by simp), if_neg g44]
          refine retC2 (cs := (Rs.mk r.g (r.e + 1) cv).cells) (.inr rfl) Try.results29 ag27 rfl rfl (by repeat (first | exact Take1.head | apply Take1.tail)) (Rs.len18 hg) fun w' h => ⟨cv, ⟨hcv, by unfold outRs; rw [hc]; rfl⟩, by unfold outRs; rw [hc]; rfl, ?_⟩
          rw [show outMs inn r.e ms l = cur by unfold outMs; rw [hc, hrun2]; rfl]
          exact h.sub (by repeat (first | exact TakeL.nil | (apply TakeL.cons; · repeat (first | exact Take1.head | apply Take1.tail))))
theorem outRs_len {inn : Bool} {r : Rs} {ms l : List Dv} {y : Value} (hr : r.g.length = 16) : (outRs inn r ms l y).g.length = 16 := by
  unfold outRs; split
  · exact hr
  · rfl
theorem outRs_one {inn : Bool} {r : Rs} {ms l : List Dv} {y : Value} (hy : IsSl y) : ∀ u ∈ (outRs inn r ms l y).cells, u.oneCell' = true := by
  unfold outRs; split
  · exact Rs.one (sliceOne hy)
  · exact Rs.one rfl
theorem with_any (r : Rs) (hr : r.ok) (ms l : List Dv) (lv : Value) (ho : DOk ms) (hlo : DOk l) (hsz : ms.length + l.length ≤ 1099511627776) (w : World) (hx : RdS w (fpL []) r.v 2 ms.length (vcs Dv.val ms)) (hy : RdS w (fpL []) lv 2 l.length (vcs Dv.val l)) (hw : OK w (fpL []) [] w) : Fn Try.prog 8 [.agg r.cells.toArray, lv] [] w (OutOk true r ms l) (fun y => .tuple #[.agg (outRs true r ms l y).cells.toArray, .int .i64 (codeF true r.e ms l)])
      (fun y => [ownR y 31 2 (outMs true r.e ms l).length (vcs Dv.val (outMs true r.e ms l))]) := by
  have hg := hr.len
  refine enterF Try.func8 rfl Try.ntmps8 rfl hw ?_
  refine WC.seq ?_
  refine WC.region ?_
  refine WL.to (To.box (cs := r.cells) rfl rfl) rfl ?_ -- t2
  intro b2
  refine WL.to (To.alloc (cs := Rs.zero.cells) zr27 rfl) rfl ?_ -- t4
  intro b4
  refine WL.y (Yl.assign rfl) rfl ?_ -- t5
  refine WL.nil ?_
  refine WC.seq ?_
  refine WC.region ?_
  refine WL.y (Yl.loadN ag27 rfl (by repeat (first | exact Take1.head | apply Take1.tail)) (by rw [Rs.len18 hg]; rfl) (show (r.cells.drop 0).take 18 = r.cells by rw [List.drop_zero, List.take_of_length_le (by rw [Rs.len18 hg]; omega)])) rfl ?_ -- t6
  refine WL.y (Yl.move rfl) rfl ?_ -- t7
  refine WL.callC (xs := [.tmp 6, .tmp 7, .func 30]) (cap := []) rfl rfl en29 (by repeat (first | exact TakeL.nil | (apply TakeL.cons; · repeat (first | exact Take1.head | apply Take1.tail)))) (fun w hw => next_any true 30 en30 (fun w v ms d a b c e => with1_any v ms d a b c w e) r hr ms l lv ho hlo hsz w (hw.srcS (A := []) hx) (hw.srcS (A := []) hy) hw.left.here) rfl ?_ -- t8 hailer/roster.next
  intro y8 hy8
  refine WL.y (Yl.extract rfl rfl) rfl ?_ -- t9
  refine WL.y (Yl.extract rfl rfl) rfl ?_ -- t10
  refine WL.sto (Sto.agg sz27 rfl rfl (by repeat (first | exact Take1.head | apply Take1.tail)) (outRs_one hy8.sl) (Rs.len18 (outRs_len hg)) (by rfl) (Rs.put (r := Rs.zero) rfl)) (fun _ h => nomatch h) ?_ -- st 1
  refine WL.y (Yl.assign rfl) rfl ?_ -- t5
  refine WL.nil ?_
  refine WC.ret ?_
  repeat (first | (with_reducible refine peelT ?_) | (with_reducible refine peelB ?_) | (with_reducible refine peelTX ?_) | (with_reducible refine peelBX ?_) | (with_reducible refine peelBN ?_) | (with_reducible refine peelBO rfl ?_))
  exact retC2 (cs := (outRs true r ms l y8).cells) (.inr rfl) Try.results8 ag27 rfl rfl (by repeat (first | exact Take1.head | apply Take1.tail)) (Rs.len18 (outRs_len hg)) fun w' h => ⟨y8, hy8, rfl, h.sub (by repeat (first | exact TakeL.nil | (apply TakeL.cons; · repeat (first | exact Take1.head | apply Take1.tail))))⟩
theorem without_any (r : Rs) (hr : r.ok) (ms l : List Dv) (lv : Value) (ho : DOk ms) (hlo : DOk l) (hsz : ms.length + l.length ≤ 1099511627776) (w : World) (hx : RdS w (fpL []) r.v 2 ms.length (vcs Dv.val ms)) (hy : RdS w (fpL []) lv 2 l.length (vcs Dv.val l)) (hw : OK w (fpL []) [] w) : Fn Try.prog 9 [.agg r.cells.toArray, lv] [] w (OutOk false r ms l) (fun y => .tuple #[.agg (outRs false r ms l y).cells.toArray, .int .i64 (codeF false r.e ms l)])
      (fun y => [ownR y 31 2 (outMs false r.e ms l).length (vcs Dv.val (outMs false r.e ms l))]) := by
  have hg := hr.len
  refine enterF Try.func9 rfl Try.ntmps9 rfl hw ?_
  refine WC.seq ?_
  refine WC.region ?_
  refine WL.to (To.box (cs := r.cells) rfl rfl) rfl ?_ -- t2
  intro b2
  refine WL.to (To.alloc (cs := Rs.zero.cells) zr27 rfl) rfl ?_ -- t4
  intro b4
  refine WL.y (Yl.assign rfl) rfl ?_ -- t5
  refine WL.nil ?_
  refine WC.seq ?_
  refine WC.region ?_
  refine WL.y (Yl.loadN ag27 rfl (by repeat (first | exact Take1.head | apply Take1.tail)) (by rw [Rs.len18 hg]; rfl) (show (r.cells.drop 0).take 18 = r.cells by rw [List.drop_zero, List.take_of_length_le (by rw [Rs.len18 hg]; omega)])) rfl ?_ -- t6
  refine WL.y (Yl.move rfl) rfl ?_ -- t7
  refine WL.callC (xs := [.tmp 6, .tmp 7, .func 34]) (cap := []) rfl rfl en29 (by repeat (first | exact TakeL.nil | (apply TakeL.cons; · repeat (first | exact Take1.head | apply Take1.tail)))) (fun w hw => next_any false 34 en34 (fun w v ms d a b c e => without1_any v ms d a b c w e) r hr ms l lv ho hlo hsz w (hw.srcS (A := []) hx) (hw.srcS (A := []) hy) hw.left.here) rfl ?_ -- t8 hailer/roster.next
  intro y8 hy8
  refine WL.y (Yl.extract rfl rfl) rfl ?_ -- t9
  refine WL.y (Yl.extract rfl rfl) rfl ?_ -- t10
  refine WL.sto (Sto.agg sz27 rfl rfl (by repeat (first | exact Take1.head | apply Take1.tail)) (outRs_one hy8.sl) (Rs.len18 (outRs_len hg)) (by rfl) (Rs.put (r := Rs.zero) rfl)) (fun _ h => nomatch h) ?_ -- st 1
  refine WL.y (Yl.assign rfl) rfl ?_ -- t5
  refine WL.nil ?_
  refine WC.ret ?_
  repeat (first | (with_reducible refine peelT ?_) | (with_reducible refine peelB ?_) | (with_reducible refine peelTX ?_) | (with_reducible refine peelBX ?_) | (with_reducible refine peelBN ?_) | (with_reducible refine peelBO rfl ?_))
  exact retC2 (cs := (outRs false r ms l y8).cells) (.inr rfl) Try.results9 ag27 rfl rfl (by repeat (first | exact Take1.head | apply Take1.tail)) (Rs.len18 (outRs_len hg)) fun w' h => ⟨y8, hy8, rfl, h.sub (by repeat (first | exact TakeL.nil | (apply TakeL.cons; · repeat (first | exact Take1.head | apply Take1.tail))))⟩
end Go.Proofs.Ytfdnnlcfolgegaa
