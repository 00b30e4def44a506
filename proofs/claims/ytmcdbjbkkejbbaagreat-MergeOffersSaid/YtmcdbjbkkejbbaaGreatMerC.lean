/- Books: searched, taken into, gone over, joined: the walks. -/
import Derived.Test.YtmcdbjbkkejbbaaGreatMerB
import Derived.Test.YtmcdbjbkkejbbaaGreatLibLs
namespace Go.Proofs.YtmcdbjbkkejbbaaGreat
open Go Go.RowKit

def isFuncB (P : Program) (t : TypeId) : Bool := match P.underlying t with
  | some (.func _ _ _) => true
  | _ => false
section
variable {c : Cx} {env : Env} {ds : List Deferred} {H : List Res} {dst : Option Tmp} {ty : TypeId} {pos : String} {af : Array Edge} {g : Option (Nat × Bool)}
/-- A function value that is one, against nil. -/
theorem Yl.eqNilF {t t2 : TypeId} {x y : Operand} {f : Go.Fn} {rv cap : Array Value} (hb : isFuncB c.P t = true) (hx : ev env x = some (.func f rv cap)) (hy : ev env y = some .nilFunc) : Yl c env ds H ⟨dst, .binOp .eql t x y t2, ty, pos, af, g⟩ (.bool false) := fun a w ha _ => by
  obtain ⟨p, r, vd, hu⟩ : ∃ p r vd, c.P.underlying t = some (.func p r vd) := by
    unfold isFuncB at hb
    split at hb
    · rename_i p r vd h; exact ⟨p, r, vd, h⟩
    · cases hb
  have e1 : (Op.equal t (.func f rv cap) .nilFunc).run c.P w = .ok false w := by
    have e1 : Op.equal t (.func f rv cap) .nilFunc = Op.equalIn (9999 + 1) t (.func f rv cap) .nilFunc := rfl
    rw [e1, Op.equalIn, Sem.run_bind, run_underlying hu w]
    simp
  simp [execOp, ha.ev hx, ha.ev hy, eqGuard, binOp, e1]
end
def inM (xs : List Rc) (d : Rc) : Bool := match xs[posM xs d]? with
  | none => false
  | some x => decide (ordF x d = 0)
theorem bsf_any (v : Value) (xs : List Rc) (d : Rc) (hl : xs.length ≤ 1099511627776) (hG : Ordl xs) (hd : d.ok) (w : World) (hx : RdS w (fpL []) v 22 xs.length (vcs rcV xs)) (hw : OK w (fpL []) [] w) :
    Fn Tryz.prog 72 [v, .agg d.cells.toArray, .func (.func 47) #[] #[]] [] w (fun _ : Unit => True) (fun _ => .tuple #[.int .i64 (posM xs d : Int), .bool (inM xs d)]) (fun _ => []) := by
  obtain ⟨ao, cap, rfl, hcl, hml⟩ := hx.rd.form
  have hR : ROk xs := hG.ok
  have hd22 := Rc.cells_len hd.len
  refine enterF Tryz.func72 rfl Tryz.ntmps72 rfl hw ?_
  refine WC.seq ?_
  refine WC.region ?_
  refine WL.to (To.box (cs := d.cells) rfl rfl) rfl ?_ -- t4
  intro b4
  refine WL.y (Yl.assign rfl) rfl ?_ -- t6
  refine WL.y (Yl.assign rfl) rfl ?_ -- t7
  refine WL.nil ?_
  refine WC.seq ?_
  refine WC.region ?_
  refine WL.y (Yl.move rfl) rfl ?_ -- t12
  refine WL.y (Yl.len un22 rfl) rfl ?_ -- t13
  refine WL.y (Yl.assign rfl) rfl ?_ -- t8
  refine WL.nil ?_
  refine WC.seq ?_
  refine WC.region ?_
  refine WL.y (Yl.move rfl) rfl ?_ -- t14
  refine WL.y (Yl.assign rfl) rfl ?_ -- t9
  refine WL.y (Yl.assign rfl) rfl ?_ -- t10
  refine WL.nil ?_
  refine WC.seq ?_
  refine WC.block ?_
  refine WC.loop (α := Nat × Nat) (fun k => [(0, .slice ao xs.length cap), (2, .func (.func 47) #[] #[]), (4, .pointer (some ⟨b4, 0, none⟩)), (8, .int .i64 (xs.length : Int)), (9, .int .i64 (k.1 : Int)), (10, .int .i64 (k.2 : Int))]) (fun _ => [blkR b4 33 d.cells])
    (fun k => k.1 ≤ k.2 ∧ k.2 ≤ xs.length ∧ (∀ (j : Nat) x, j < k.1 → xs[j]? = some x → ordF x d < 0) ∧ (∀ (j : Nat) x, k.2 ≤ j → xs[j]? = some x → ¬ ordF x d < 0)) (fun k => k.2 - k.1) (0, xs.length) ⟨Nat.zero_le _, Nat.le_refl _, fun j x h => absurd h (Nat.not_lt_zero _), fun j x h1 h2 => absurd (List.getElem?_eq_some_iff.1 h2).1 (by dsimp only at h1; omega)⟩ ⟨(by repeat (first | exact Sub.nil | refine Sub.cons rfl ?_)), _, (by repeat (first | exact TakeL.nil | (apply TakeL.cons; · repeat (first | exact Take1.head | apply Take1.tail))))⟩ ?_
  rintro ⟨i, j⟩ ⟨hij, hj, hlo, hhi⟩
  dsimp only at hij hj hlo hhi ⊢
  refine WC.seq ?_
  refine WC.seq ?_
  refine WC.region ?_
  refine WL.y (Yl.move rfl) rfl ?_ -- t15
  refine WL.y (Yl.move rfl) rfl ?_ -- t16
  refine WL.y (Yl.lss rfl rfl) rfl ?_ -- t17
  refine WL.nil ?_
  refine WC.condD rfl (fun g17 => ?_) (fun g17 => ?_)
  · refine WC.skip ?_
    refine WC.block ?_
    refine WC.seq ?_
    refine WC.region ?_
    refine WL.y (Yl.move rfl) rfl ?_ -- t18
    refine WL.y (Yl.move rfl) rfl ?_ -- t19
    refine WL.y (Yl.add rfl rfl (IntWalk.i64_in _ (by omega))) rfl ?_ -- t20
    refine WL.y (Yl.conv un3 un134 rfl (u64_in _ (by omega))) rfl ?_ -- t21
    refine WL.y (Yl.shr rfl rfl ⟨by omega, (by simp [IntKind.bits]; try omega)⟩ rfl) rfl ?_ -- t22
    refine WL.say (t := 22) (v' := .int .u64 (((i + j) / 2 : Nat) : Int)) rfl (by congr 1) ?_
    refine WL.y (Yl.conv un134 un3 rfl (IntWalk.i64_in _ (by omega))) rfl ?_ -- t23
    refine WL.y (Yl.assign rfl) rfl ?_ -- t11
    refine WL.nil ?_
    refine WC.seq ?_
    obtain ⟨m, hm⟩ : ∃ m, m = (i + j) / 2 := ⟨_, rfl⟩
    rw [← hm]
    have hmi : i ≤ m := by omega
    have hmj : m < j := by omega
    obtain ⟨x, hxx⟩ : ∃ x, xs[m]? = some x := ⟨_, List.getElem?_eq_getElem (by omega)⟩
    have hxo := hR.get hxx
    refine WC.drawTail 6 mixed (by kernel_rfl) ?_
    refine WH.y (Yl.move rfl) rfl ?_ -- t24
    refine WH.y (Yl.move rfl) rfl ?_ -- t25
    refine WH.y (Yl.move rfl) rfl ?_ -- t26
    refine WH.y (Yl.index un22 sz33 rfl rfl (Reads.s hx) rfl (by omega)) rfl ?_ -- t27
    refine WH.y (Yl.loadV (j := m) (u := x) vtR hR rfl (Reads.s hx) rfl hxx) rfl ?_
    refine WH.y (Yl.loadN ag33 rfl (by repeat (first | exact Take1.head | apply Take1.tail)) (leB (by rw [hd22]; omega)) (Rc.call hd.len)) rfl ?_ -- t29
    refine WH.nil ?_
    refine WP.callC (f := .tmp 24) (xs := [.tmp 28, .tmp 29]) (cap := []) rfl rfl en47 (by repeat (first | exact TakeL.nil | (apply TakeL.cons; · repeat (first | exact Take1.head | apply Take1.tail)))) (fun w hw => order_any x d hxo hd w hw.left.here) rfl ?_ -- t30
    rintro ⟨⟩ -
    refine WP.y (Yl.lss rfl rfl) rfl ?_ -- t31
    refine WP.nil ?_
    refine WC.condD rfl (fun g31 => ?_) (fun g31 => ?_)
    · refine WC.region ?_
      refine WL.y (Yl.move rfl) rfl ?_ -- t32
      refine WL.y (Yl.add rfl rfl (IntWalk.i64_in _ (by omega))) rfl ?_ -- t33
      refine WL.y (Yl.assign rfl) rfl ?_ -- t9
      refine WL.nil ?_
      exact ⟨rfl, (m + 1, j), ⟨by dsimp only; omega, hj, fun k y hk hy => by
        dsimp only at hk
        by_cases e : k = m
        · subst e; rw [hxx] at hy; cases hy; exact g31
        · obtain ⟨l1, e1⟩ := List.getElem?_eq_some_iff.1 hy
          obtain ⟨l2, e2⟩ := List.getElem?_eq_some_iff.1 hxx
          have := List.pairwise_iff_getElem.1 hG.ord k m l1 l2 (by omega)
          rw [e1, e2] at this
          exact lex_trans this (Int.le_of_lt g31), hhi⟩, by dsimp only; omega, (by repeat (first | exact Sub.nil | refine Sub.cons rfl ?_)), _, (by repeat (first | exact TakeL.nil | (apply TakeL.cons; · repeat (first | exact Take1.head | apply Take1.tail))))⟩
    · refine WC.region ?_
      refine WL.y (Yl.move rfl) rfl ?_ -- t34
      refine WL.y (Yl.assign rfl) rfl ?_ -- t10
      refine WL.nil ?_
      exact ⟨rfl, (i, m), ⟨hmi, by dsimp only; omega, hlo, fun k y hk hy => by
        dsimp only at hk
        by_cases e : k = m
        · subst e; rw [hxx] at hy; cases hy; exact g31
        · obtain ⟨l1, e1⟩ := List.getElem?_eq_some_iff.1 hy
          obtain ⟨l2, e2⟩ := List.getElem?_eq_some_iff.1 hxx
          have := List.pairwise_iff_getElem.1 hG.ord m k l2 l1 (by omega)
          rw [e1, e2] at this
          exact fun h => g31 (lex_trans this (Int.le_of_lt h))⟩, by dsimp only; omega, (by repeat (first | exact Sub.nil | refine Sub.cons rfl ?_)), _, (by repeat (first | exact TakeL.nil | (apply TakeL.cons; · repeat (first | exact Take1.head | apply Take1.tail))))⟩
  · refine WC.exit ?_
    refine WC.seq ?_
    have hij2 : i = j := by omega
    subst hij2
    have hp : posM xs d = i := pos_of' hj hlo (fun x hx => hhi i x (Nat.le_refl _) hx)
    refine WC.drawAny (Hs := [blkR b4 33 d.cells]) mixed (by kernel_rfl) ⟨_, (by repeat (first | exact TakeL.nil | (apply TakeL.cons; · repeat (first | exact Take1.head | apply Take1.tail))))⟩ ?_
    refine WD.take 0 rfl (by kernel_rfl) (by kernel_rfl) (by kernel_rfl) rfl rfl (Yl.move rfl) rfl ?_ -- t35
    refine WD.take 1 rfl (by kernel_rfl) (by kernel_rfl) (by kernel_rfl) rfl rfl (Yl.move rfl) rfl ?_ -- t36
    refine WD.take 2 rfl (by kernel_rfl) (by kernel_rfl) (by kernel_rfl) rfl rfl (Yl.move rfl) rfl ?_ -- t37
    refine WD.take 3 rfl (by kernel_rfl) (by kernel_rfl) (by kernel_rfl) rfl rfl (Yl.lss rfl rfl) rfl ?_ -- t38
    refine WD.take 4 rfl (by kernel_rfl) (by kernel_rfl) (by kernel_rfl) rfl rfl (Yl.move rfl) rfl ?_ -- t39
    refine WD.both (t := 39) rfl (fun g39 => ?_) (fun g39 => ?_)
    · refine WD.takeOn 5 rfl (by kernel_rfl) (by kernel_rfl) (by kernel_rfl) rfl rfl rfl rfl (Yl.move rfl) rfl ?_ -- t40
      refine WD.takeOn 6 rfl (by kernel_rfl) (by kernel_rfl) (by kernel_rfl) rfl rfl rfl rfl (Yl.move rfl) rfl ?_ -- t41
      refine WD.takeOn 7 rfl (by kernel_rfl) (by kernel_rfl) (by kernel_rfl) rfl rfl rfl rfl (Yl.move rfl) rfl ?_ -- t42
      have hlt : i < xs.length := by have := of_decide_eq_true g39; omega
      obtain ⟨x, hxx⟩ : ∃ x, xs[i]? = some x := ⟨_, List.getElem?_eq_getElem hlt⟩
      refine WD.takeOn 8 rfl (by kernel_rfl) (by kernel_rfl) (by kernel_rfl) rfl rfl rfl rfl (Yl.index un22 sz33 rfl rfl (Reads.s hx) rfl (by omega)) rfl ?_ -- t43
      refine WD.takeOn 9 rfl (by kernel_rfl) (by kernel_rfl) (by kernel_rfl) rfl rfl rfl rfl (Yl.loadV (j := i) (u := x) vtR hR rfl (Reads.s hx) rfl hxx) rfl ?_
      refine WD.takeOn 10 rfl (by kernel_rfl) (by kernel_rfl) (by kernel_rfl) rfl rfl rfl rfl (Yl.loadN ag33 rfl (by repeat (first | exact Take1.head | apply Take1.tail)) (leB (by rw [hd22]; omega)) (Rc.call hd.len)) rfl ?_ -- t45
      refine WD.one 11 (by kernel_rfl) ?_
      refine WO.callC (f := .tmp 40) (xs := [.tmp 44, .tmp 45]) (cap := []) rfl (.on rfl rfl) rfl rfl en47 (by repeat (first | exact TakeL.nil | (apply TakeL.cons; · repeat (first | exact Take1.head | apply Take1.tail)))) (fun w hw => order_any x d (hR.get hxx) hd w hw.left.here) rfl (fun _ => ⟨_, (by repeat (first | exact TakeL.nil | (apply TakeL.cons; · repeat (first | exact Take1.head | apply Take1.tail))))⟩) ?_ -- t46
      rintro ⟨⟩ -
      refine WD.takeOn 12 rfl (by kernel_rfl) (by kernel_rfl) (by kernel_rfl) rfl rfl rfl rfl (Yl.eql rfl rfl) rfl ?_ -- t47
      refine WD.take 13 rfl (by kernel_rfl) (by kernel_rfl) (by kernel_rfl) rfl rfl (Yl.pickT rfl rfl) rfl ?_ -- t48
      refine WD.take 14 rfl (by kernel_rfl) (by kernel_rfl) (by kernel_rfl) rfl rfl (Yl.assign rfl) rfl ?_ -- t6
      refine WD.take 15 rfl (by kernel_rfl) (by kernel_rfl) (by kernel_rfl) rfl rfl (Yl.assign rfl) rfl ?_ -- t7
      refine WD.done (by kernel_rfl) ?_
      refine WC.ret ?_
      repeat (first | (with_reducible refine peelT ?_) | (with_reducible refine peelB ?_) | (with_reducible refine peelTX ?_) | (with_reducible refine peelBX ?_) | (with_reducible refine peelBN ?_) | (with_reducible refine peelBO rfl ?_))
      exact ret2 (.inr rfl) Tryz.results72 rfl rfl fun w' h => ⟨(), trivial, by unfold inM; rw [hp, hxx], h.sub (by repeat (first | exact TakeL.nil | (apply TakeL.cons; · repeat (first | exact Take1.head | apply Take1.tail))))⟩
    · refine WD.takeOff 5 rfl (by kernel_rfl) (by kernel_rfl) (by kernel_rfl) rfl rfl rfl rfl rfl rfl ?_ -- t40
      refine WD.takeOff 6 rfl (by kernel_rfl) (by kernel_rfl) (by kernel_rfl) rfl rfl rfl rfl rfl rfl ?_ -- t41
      refine WD.takeOff 7 rfl (by kernel_rfl) (by kernel_rfl) (by kernel_rfl) rfl rfl rfl rfl rfl rfl ?_ -- t42
      refine WD.takeOff 8 rfl (by kernel_rfl) (by kernel_rfl) (by kernel_rfl) rfl rfl rfl rfl rfl rfl ?_ -- t43
      refine WD.takeOff 9 rfl (by kernel_rfl) (by kernel_rfl) (by kernel_rfl) rfl rfl rfl rfl rfl rfl ?_ -- t44
      refine WD.takeOff 10 rfl (by kernel_rfl) (by kernel_rfl) (by kernel_rfl) rfl rfl rfl rfl rfl rfl ?_ -- t45
      refine WD.one 11 (by kernel_rfl) ?_
      refine WO.off rfl rfl rfl rfl rfl rfl rfl ?_ -- t46
      refine WD.takeOff 12 rfl (by kernel_rfl) (by kernel_rfl) (by kernel_rfl) rfl rfl rfl rfl rfl rfl ?_ -- t47
      refine WD.take 13 rfl (by kernel_rfl) (by kernel_rfl) (by kernel_rfl) rfl rfl (Yl.pickF rfl rfl) rfl ?_ -- t48
      refine WD.take 14 rfl (by kernel_rfl) (by kernel_rfl) (by kernel_rfl) rfl rfl (Yl.assign rfl) rfl ?_ -- t6
      refine WD.take 15 rfl (by kernel_rfl) (by kernel_rfl) (by kernel_rfl) rfl rfl (Yl.assign rfl) rfl ?_ -- t7
      refine WD.done (by kernel_rfl) ?_
      refine WC.ret ?_
      repeat (first | (with_reducible refine peelT ?_) | (with_reducible refine peelB ?_) | (with_reducible refine peelTX ?_) | (with_reducible refine peelBX ?_) | (with_reducible refine peelBN ?_) | (with_reducible refine peelBO rfl ?_))
      have hnn : xs[i]? = none := List.getElem?_eq_none_iff.2 (by have := of_decide_eq_false g39; omega)
      exact ret2 (.inr rfl) Tryz.results72 rfl rfl fun w' h => ⟨(), trivial, by unfold inM; rw [hp, hnn], h.sub (by repeat (first | exact TakeL.nil | (apply TakeL.cons; · repeat (first | exact Take1.head | apply Take1.tail))))⟩
theorem flat1 (r : Rc) : flat [.agg r.cells.toArray] = r.cells := by simp [flat, Value.cells]
theorem ordered_any (v : Value) (xs : List Rc) (r : Rc) (hl : xs.length ≤ 999999) (hG : Ordl xs) (hr : r.ok) (w : World) (hx : RdS w (fpL []) v 22 xs.length (vcs rcV xs)) (hw : OK w (fpL []) [] w) :
    Fn Tryz.prog 46 [v, .agg r.cells.toArray, .func (.func 47) #[] #[]] [] w (fun _ : Option Addr × Nat => True) (fun y => .slice y.1 (xs.length + 1) y.2) (fun y => [ownR (.slice y.1 (xs.length + 1) y.2) 33 22 (xs.length + 1) (vcs rcV (insF xs r))]) := by
  have hr22 := Rc.cells_len hr.len
  refine enterF Tryz.func46 rfl Tryz.ntmps46 rfl hw ?_
  refine WC.seq ?_
  refine WC.region ?_
  refine WL.to (To.box (cs := r.cells) rfl rfl) rfl ?_ -- t4
  intro b4
  refine WL.y (Yl.assign rfl) rfl ?_ -- t6
  refine WL.nil ?_
  refine WC.seq ?_
  refine WC.region ?_
  refine WL.y (Yl.move rfl) rfl ?_ -- t10
  refine WL.y (Yl.loadN ag33 rfl (by repeat (first | exact Take1.head | apply Take1.tail)) (leB (by rw [hr22]; omega)) (Rc.call hr.len)) rfl ?_ -- t11
  refine WL.y (Yl.move rfl) rfl ?_ -- t12
  refine WL.callC (xs := [.tmp 10, .tmp 11, .tmp 12]) (cap := []) rfl rfl en72 (by repeat (first | exact TakeL.nil | (apply TakeL.cons; · repeat (first | exact Take1.head | apply Take1.tail)))) (fun w hw => bsf_any v xs r (by omega) hG hr w (hw.srcS (A := []) hx) hw.left.here) rfl ?_ -- t13 slices.BinarySearchFunc[[]hailer/api.Record,hailer/api.Record,hailer/api.Record]
  rintro ⟨⟩ -
  refine WL.y (Yl.move rfl) rfl ?_ -- t9
  refine WL.y (Yl.extract rfl rfl) rfl ?_ -- t14
  refine WL.y (Yl.extract rfl rfl) rfl ?_ -- t15
  refine WL.y (Yl.assign rfl) rfl ?_ -- t7
  refine WL.y (Yl.assign rfl) rfl ?_ -- t8
  refine WL.nil ?_
  refine WC.seq ?_
  refine WC.drawAny (Hs := [blkR b4 33 r.cells]) mixed (by kernel_rfl) ⟨_, (by repeat (first | exact TakeL.nil | (apply TakeL.cons; · repeat (first | exact Take1.head | apply Take1.tail))))⟩ ?_
  refine WD.take 0 rfl (by kernel_rfl) (by kernel_rfl) (by kernel_rfl) rfl rfl (Yl.move rfl) rfl ?_ -- t16
  refine WD.take 2 rfl (by kernel_rfl) (by kernel_rfl) (by kernel_rfl) rfl rfl (Yl.move rfl) rfl ?_ -- t18
  refine WD.take 3 rfl (by kernel_rfl) (by kernel_rfl) (by kernel_rfl) rfl rfl (Yl.loadN ag33 rfl (by repeat (first | exact Take1.head | apply Take1.tail)) (leB (by rw [hr22]; omega)) (Rc.call hr.len)) rfl ?_ -- t19
  refine WD.two 1 4 (by kernel_rfl) ?_ ?_
  · refine WO.callC (xs := [.tmp 16]) (cap := []) rfl .no rfl rfl en51 (by repeat (first | exact TakeL.nil | (apply TakeL.cons; · repeat (first | exact Take1.head | apply Take1.tail)))) (fun w hw => cloneR_any v xs hG.ok (by omega) w (hw.srcS (A := []) hx) hw.left.here) rfl (fun _ => ⟨_, (by repeat (first | exact TakeL.nil | (apply TakeL.cons; · repeat (first | exact Take1.head | apply Take1.tail))))⟩) ?_ -- t17 slices.Clone[[]hailer/api.Record,hailer/api.Record]
    rintro ⟨a17, c17⟩ -
    dsimp only [List.cons_append, List.nil_append]
    refine WD.one 4 (by kernel_rfl) ?_
    refine WO.to rfl rfl .no (To.buildSlice (vs := [.agg r.cells.toArray]) un22 zs33 rfl rfl (by simp [Value.cells, hr22]) (by decide) (by decide)) rfl (fun _ => ⟨_, (by repeat (first | exact TakeL.nil | (apply TakeL.cons; · repeat (first | exact Take1.head | apply Take1.tail))))⟩) ?_ -- t20
    intro b20
    rw [flat1]
    refine WD.one 5 (by kernel_rfl) ?_
    refine WO.callC (xs := [.tmp 17, .tmp 18, .tmp 20]) (cap := []) rfl .no rfl rfl en73 (by repeat (first | exact TakeL.nil | (apply TakeL.cons; · repeat (first | exact Take1.head | apply Take1.tail)))) (fun w hw => insR_any a17 c17 xs r hG.ok hr (posM xs r) b20 (by omega) (posM_le _ _) w hw.left.here) rfl (fun _ => ⟨_, (by repeat (first | exact TakeL.nil | (apply TakeL.cons; · repeat (first | exact Take1.head | apply Take1.tail))))⟩) ?_ -- t21 slices.Insert[[]hailer/api.Record,hailer/api.Record]
    rintro ⟨a21, c21⟩ -
    dsimp only [List.cons_append, List.nil_append]
    refine WD.take 6 rfl (by kernel_rfl) (by kernel_rfl) (by kernel_rfl) rfl rfl (Yl.assign rfl) rfl ?_ -- t6
    refine WD.done (by kernel_rfl) ?_
    refine WC.ret ?_
    repeat (first | (with_reducible refine peelT ?_) | (with_reducible refine peelB ?_) | (with_reducible refine peelTX ?_) | (with_reducible refine peelBX ?_) | (with_reducible refine peelBN ?_) | (with_reducible refine peelBO rfl ?_))
    exact ret1 (.inr rfl) Tryz.results46 rfl fun w' h => ⟨(a21, c21), trivial, rfl, h.sub (by repeat (first | exact TakeL.nil | (apply TakeL.cons; · repeat (first | exact Take1.head | apply Take1.tail))))⟩
  · refine WO.to rfl rfl .no (To.buildSlice (vs := [.agg r.cells.toArray]) un22 zs33 rfl rfl (by simp [Value.cells, hr22]) (by decide) (by decide)) rfl (fun _ => ⟨_, (by repeat (first | exact TakeL.nil | (apply TakeL.cons; · repeat (first | exact Take1.head | apply Take1.tail))))⟩) ?_ -- t20
    intro b20
    rw [flat1]
    refine WD.one 1 (by kernel_rfl) ?_
    refine WO.callC (xs := [.tmp 16]) (cap := []) rfl .no rfl rfl en51 (by repeat (first | exact TakeL.nil | (apply TakeL.cons; · repeat (first | exact Take1.head | apply Take1.tail)))) (fun w hw => cloneR_any v xs hG.ok (by omega) w (hw.srcS (A := []) hx) hw.left.here) rfl (fun _ => ⟨_, (by repeat (first | exact TakeL.nil | (apply TakeL.cons; · repeat (first | exact Take1.head | apply Take1.tail))))⟩) ?_ -- t17 slices.Clone[[]hailer/api.Record,hailer/api.Record]
    rintro ⟨a17, c17⟩ -
    dsimp only [List.cons_append, List.nil_append]
    refine WD.one 5 (by kernel_rfl) ?_
    refine WO.callC (xs := [.tmp 17, .tmp 18, .tmp 20]) (cap := []) rfl .no rfl rfl en73 (by repeat (first | exact TakeL.nil | (apply TakeL.cons; · repeat (first | exact Take1.head | apply Take1.tail)))) (fun w hw => insR_any a17 c17 xs r hG.ok hr (posM xs r) b20 (by omega) (posM_le _ _) w hw.left.here) rfl (fun _ => ⟨_, (by repeat (first | exact TakeL.nil | (apply TakeL.cons; · repeat (first | exact Take1.head | apply Take1.tail))))⟩) ?_ -- t21 slices.Insert[[]hailer/api.Record,hailer/api.Record]
    rintro ⟨a21, c21⟩ -
    dsimp only [List.cons_append, List.nil_append]
    refine WD.take 6 rfl (by kernel_rfl) (by kernel_rfl) (by kernel_rfl) rfl rfl (Yl.assign rfl) rfl ?_ -- t6
    refine WD.done (by kernel_rfl) ?_
    refine WC.ret ?_
    repeat (first | (with_reducible refine peelT ?_) | (with_reducible refine peelB ?_) | (with_reducible refine peelTX ?_) | (with_reducible refine peelBX ?_) | (with_reducible refine peelBN ?_) | (with_reducible refine peelBO rfl ?_))
    exact ret1 (.inr rfl) Tryz.results46 rfl fun w' h => ⟨(a21, c21), trivial, rfl, h.sub (by repeat (first | exact TakeL.nil | (apply TakeL.cons; · repeat (first | exact Take1.head | apply Take1.tail))))⟩
theorem ints_inj {k : IntKind} {a b : List Int} (h : ints k a = ints k b) : a = b := by
  unfold ints at h
  exact (List.map_inj_right (fun x y e => by injection e)).1 h
theorem eqV_ints {k : IntKind} {a b : List Int} : eqV (ints k a) (ints k b) = decide (a = b) := by
  by_cases h : a = b
  · rw [h, eqV_self]; simp
  · rw [eqV_ne (fun e => h (ints_inj e))]; simp [h]
def idLeaf : List Leaf := List.replicate 16 (some .u8)
theorem flId : Flat Tryz.prog 30 idLeaf := Flat.mk' 5 (by decide) (by kernel_rfl) (by kernel_rfl)
theorem fitsId {id : List Int} (hl : id.length = 16) (hb : Bytes id) : Fits1 idLeaf (ints .u8 id) := fits_ints hl hb
theorem predI (id : List Int) (hid : id.length = 16) (hib : Bytes id) (b : Nat) (w : World) (T : Pm) (hm0 : BlkS w T b 30 (ints .u8 id)) : PredS Tryz.prog w T 75 [.pointer (some ⟨b, 0, none⟩)] Rc.ok rcV (fun x => decide (x.id = id)) := by
  refine ⟨en75, fun w' hc x hx => ?_⟩
  have hm : BlkS w' (fpL []) b 30 (ints .u8 id) := fun w'' h2 => hm0 w'' (hc.trans' h2 (fun _ _ e => e) (by rintro i hi ⟨s, hs, _⟩; cases hs))
  have hw : OK w' (fpL []) [] w' := OK.nil _ _
  have h22 := Rc.cells_len hx.len
  have hil : (ints .u8 id).length = 16 := by rw [ints_length, hid]
  refine enterF Tryz.func75 rfl Tryz.ntmps75 rfl hw ?_
  refine WC.seq ?_
  refine WC.region ?_
  refine WL.to (To.box (cs := x.cells) rfl rfl) rfl ?_ -- t2
  intro b2
  refine WL.y (Yl.assign rfl) rfl ?_ -- t3
  refine WL.nil ?_
  refine WC.seq ?_
  refine WC.region ?_
  refine WL.y (Yl.field fo33_0 rfl) rfl ?_ -- t4
  refine WL.y (Yl.loadN ag30 rfl (by repeat (first | exact Take1.head | apply Take1.tail)) (leB (by rw [h22]; omega)) (Rc.cid hx.len)) rfl ?_ -- t5
  refine WL.y (Yl.loadNS ag30 rfl hm (leB (by rw [hil]; omega)) (show _ = ints .u8 id by rw [List.drop_zero, List.take_of_length_le (by rw [hil]; omega)])) rfl ?_ -- t6
  refine WL.y (Yl.eqA flId rfl rfl (fitsId hx.len hx.id) (fitsId hid hib)) rfl ?_
  rw [eqV_ints]
  refine WL.y (Yl.assign rfl) rfl ?_ -- t3
  refine WL.nil ?_
  refine WC.ret ?_
  repeat (first | (with_reducible refine peelT ?_) | (with_reducible refine peelB ?_) | (with_reducible refine peelTX ?_) | (with_reducible refine peelBX ?_) | (with_reducible refine peelBN ?_) | (with_reducible refine peelBO rfl ?_))
  exact ret1 (.inr rfl) Tryz.results75 rfl fun w' h => ⟨(), trivial, rfl, h.sub (by repeat (first | exact TakeL.nil | (apply TakeL.cons; · repeat (first | exact Take1.head | apply Take1.tail))))⟩
def plcI (l : List Rc) (id : List Int) : Int := match plcF l id with
  | none => -1
  | some i => (i : Int)
theorem place_any (b : Nat) (v : Value) (l : List Rc) (hG : ROk l) (id : List Int) (hid : id.length = 16) (hib : Bytes id) (hl : l.length ≤ 1000000) (w : World) (hb : BlkS w (fpL []) b 64 [v]) (hx : RdS w (fpL []) v 22 l.length (vcs rcV l)) (hw : OK w (fpL []) [] w) :
    Fn Tryz.prog 49 [.pointer (some ⟨b, 0, none⟩), .agg (ints .u8 id).toArray] [] w (fun _ : Unit => True) (fun _ => .int .i64 (plcI l id)) (fun _ => []) := by
  refine enterF Tryz.func49 rfl Tryz.ntmps49 rfl hw ?_
  refine WC.seq ?_
  refine WC.region ?_
  refine WL.to (To.box (cs := ints .u8 id) rfl rfl) rfl ?_ -- t3
  intro b3
  refine WL.y (Yl.assign rfl) rfl ?_ -- t4
  refine WL.nil ?_
  refine WC.seq ?_
  refine WC.region ?_
  refine WL.y (Yl.move rfl) rfl ?_ -- t5
  refine WL.y (Yl.nilCheck rfl) rfl ?_ -- t6
  refine WL.y (Yl.field fo64_0 rfl) rfl ?_ -- t7
  refine WL.y (Yl.loadS on22 rfl hb (by rfl)) rfl ?_ -- t8
  refine WL.y (Yl.makeFunc (xs := []) (ys := [.tmp 3]) rfl rfl) rfl ?_ -- t9
  refine WL.callC (xs := [.tmp 8, .tmp 9]) (cap := []) rfl rfl en74 (by repeat (first | exact TakeL.nil | (apply TakeL.cons; · repeat (first | exact Take1.head | apply Take1.tail)))) (fun w hw => idxR_any v l hG 75 [.pointer (some ⟨b3, 0, none⟩)] (fun x => decide (x.id = id)) hl w (hw.srcS (A := []) hx) (predI id hid hib b3 w _ (hw.srcB (A := []) (by repeat (first | exact Take1.head | apply Take1.tail)))) hw.left.here) rfl ?_ -- t10 slices.IndexFunc[[]hailer/api.Record,hailer/api.Record]
  rintro ⟨⟩ -
  refine WL.y (Yl.assign rfl) rfl ?_ -- t4
  refine WL.nil ?_
  refine WC.ret ?_
  repeat (first | (with_reducible refine peelT ?_) | (with_reducible refine peelB ?_) | (with_reducible refine peelTX ?_) | (with_reducible refine peelBX ?_) | (with_reducible refine peelBN ?_) | (with_reducible refine peelBO rfl ?_))
  exact ret1 (.inr rfl) Tryz.results49 rfl fun w' h => ⟨(), trivial, rfl, h.sub (by repeat (first | exact TakeL.nil | (apply TakeL.cons; · repeat (first | exact Take1.head | apply Take1.tail))))⟩

/-- A book. -/
def bkR (b : Nat) (ao : Option Addr) (ca : Nat) (l : List Rc) : List Res := [blkR b 64 [.slice ao l.length ca], ownR (.slice ao l.length ca) 33 22 l.length (vcs rcV l)]
theorem better_ok {x r : Rc} (hx : x.ok) (hr : r.ok) : (betterF x r).ok := by unfold betterF; split <;> assumption
theorem better_same {x r : Rc} : decide (betterF x r = x) = !decide (0 < betF x r) := by
  unfold betterF
  by_cases h : 0 < betF x r
  · rw [if_pos h, decide_eq_true h]
    refine decide_eq_false fun e => ?_
    rw [e, bet_self] at h
    omega
  · rw [if_neg h, decide_eq_false h]
    simp
set_option maxRecDepth 100000 in
theorem takeM_any (b : Nat) (ao : Option Addr) (ca : Nat) (l : List Rc) (r : Rc) (hB : Book l) (hr : r.ok) (hl : l.length ≤ 999999) (w : World) (hw : OK w (fpL (bkR b ao ca l)) (bkR b ao ca l) w) :
    Fn Tryz.prog 21 [.pointer (some ⟨b, 0, none⟩), .agg r.cells.toArray] (bkR b ao ca l) w (fun _ : Option Addr × Nat => True) (fun _ => .tuple #[.bool (takeF l r).2, .int .i64 (if mayB r then 0 else 2)]) (fun y => bkR b y.1 y.2 (takeF l r).1) := by
  unfold bkR at hw ⊢
  have hr22 := Rc.cells_len hr.len
  have hR := hB.rok
  refine enterF Tryz.func21 rfl Tryz.ntmps21 rfl hw ?_
  refine WC.seq ?_
  refine WC.region ?_
  refine WL.to (To.box (cs := r.cells) rfl rfl) rfl ?_ -- t3
  intro b3
  refine WL.y (Yl.assign rfl) rfl ?_ -- t4
  refine WL.y (Yl.assign rfl) rfl ?_ -- t5
  refine WL.nil ?_
  refine WC.seq ?_
  refine WC.block ?_
  refine WC.seq ?_
  refine WC.region ?_
  refine WL.y (Yl.move rfl) rfl ?_ -- t8
  refine WL.y (Yl.nilEq un26 rfl rfl) rfl ?_ -- t9
  refine WL.know (t := 9) (b' := false) rfl (by first | rfl | (simp; done) | (simp; omega)) ?_
  refine WL.y (Yl.assign rfl) rfl ?_ -- t7
  refine WL.nil ?_
  refine WC.condF rfl (by first | rfl | (simp; done) | (simp; omega)) ?_
  refine WC.seq ?_
  refine WC.region ?_
  refine WL.y (Yl.loadN ag33 rfl (by repeat (first | exact Take1.head | apply Take1.tail)) (leB (by rw [hr22]; omega)) (Rc.call hr.len)) rfl ?_ -- t11
  refine WL.callC (xs := [.tmp 11]) (cap := []) rfl rfl en48 (by repeat (first | exact TakeL.nil | (apply TakeL.cons; · repeat (first | exact Take1.head | apply Take1.tail)))) (fun w hw => may_any r hr w hw.left.here) rfl ?_ -- t12 hailer/rec.May
  rintro ⟨⟩ -
  refine WL.y (Yl.not rfl) rfl ?_ -- t13
  refine WL.y (Yl.assign rfl) rfl ?_ -- t10
  refine WL.nil ?_
  refine WC.cond rfl (fun g10 => ?_) (fun g10 => ?_)
  · refine WC.seq ?_
    refine WC.region ?_
    refine WL.y (Yl.assign rfl) rfl ?_ -- t4
    refine WL.y (Yl.assign rfl) rfl ?_ -- t5
    refine WL.nil ?_
    refine WC.ret ?_
    repeat (first | (with_reducible refine peelT ?_) | (with_reducible refine peelB ?_) | (with_reducible refine peelTX ?_) | (with_reducible refine peelBX ?_) | (with_reducible refine peelBN ?_) | (with_reducible refine peelBO rfl ?_))
    have hm : mayB r = false := by simpa using g10
    rw [take_bad hm, hm]
    exact ret2 (.inr rfl) Tryz.results21 rfl rfl fun w' h => ⟨(ao, ca), trivial, rfl, h.sub (by repeat (first | exact TakeL.nil | (apply TakeL.cons; · repeat (first | exact Take1.head | apply Take1.tail))))⟩
  · refine WC.skip ?_
    refine WC.midX (α := (Option Addr × Nat) × List Rc) (fun _ => [(0, .pointer (some ⟨b, 0, none⟩)), (3, .pointer (some ⟨b3, 0, none⟩))]) (fun y => [blkR b 64 [.slice y.1.1 y.2.length y.1.2], ownR (.slice y.1.1 y.2.length y.1.2) 33 22 y.2.length (vcs rcV y.2), blkR b3 33 r.cells]) (fun y => Ordl y.2 ∧ y.2.length ≤ l.length ∧ takeF l r = (insF y.2 r, true)) ?_ ?_
    · refine WC.seq ?_
      have hm : mayB r = true := by simpa using g10
      rw [hm]
      refine WC.region ?_
      refine WL.y (Yl.move rfl) rfl ?_ -- t14
      refine WL.y (Yl.field fo33_0 rfl) rfl ?_ -- t15
      refine WL.y (Yl.loadN ag30 rfl (by repeat (first | exact Take1.head | apply Take1.tail)) (leB (by rw [hr22]; omega)) (Rc.cid hr.len)) rfl ?_ -- t16
      refine WL.callC (xs := [.tmp 14, .tmp 16]) (cap := []) rfl rfl en49 (by repeat (first | exact TakeL.nil | (apply TakeL.cons; · repeat (first | exact Take1.head | apply Take1.tail)))) (fun w hw => place_any b (.slice ao l.length ca) l hR r.id hr.len hr.id (by omega) w (hw.srcB (A := []) (by repeat (first | exact Take1.head | apply Take1.tail))) (hw.src (A := []) (r := ownR (.slice ao l.length ca) 33 22 l.length (vcs rcV l)) RdOf.own (by repeat (first | exact Take1.head | apply Take1.tail))) hw.left.here) rfl ?_ -- t17 (*hailer/merge.Book).place
      rintro ⟨⟩ -
      refine WL.y (Yl.assign rfl) rfl ?_ -- t6
      refine WL.nil ?_
      refine WC.seq ?_
      refine WC.region ?_
      refine WL.y (Yl.move rfl) rfl ?_ -- t18
      refine WL.y (Yl.geq rfl rfl) rfl ?_ -- t19
      refine WL.nil ?_
      refine WC.condD rfl (fun g19 => ?_) (fun g19 => ?_)
      · refine WC.seq ?_
        refine WC.seq ?_
        obtain ⟨i, hp⟩ : ∃ i, plcF l r.id = some i := by
          cases e : plcF l r.id with
          | some i => exact ⟨i, rfl⟩
          | none => unfold plcI at g19; rw [e] at g19; exact absurd g19 (by decide)
        have hpi : plcI l r.id = (i : Int) := by unfold plcI; rw [hp]
        obtain ⟨x, hx, he⟩ := plc_some hp
        have hil : i < l.length := (List.getElem?_eq_some_iff.1 hx).1
        have hxb := hB.bk x (List.mem_of_getElem? hx)
        have htk := take_old hm hp hx
        rw [hpi]
        refine WC.drawAny (Hs := [blkR b 64 [.slice ao l.length ca], ownR (.slice ao l.length ca) 33 22 l.length (vcs rcV l), blkR b3 33 r.cells]) mixed (by kernel_rfl) ⟨_, (by repeat (first | exact TakeL.nil | (apply TakeL.cons; · repeat (first | exact Take1.head | apply Take1.tail))))⟩ ?_
        refine WD.take 0 rfl (by kernel_rfl) (by kernel_rfl) (by kernel_rfl) rfl rfl (Yl.move rfl) rfl ?_ -- t20
        refine WD.take 1 rfl (by kernel_rfl) (by kernel_rfl) (by kernel_rfl) rfl rfl (Yl.nilCheck rfl) rfl ?_ -- t21
        refine WD.take 2 rfl (by kernel_rfl) (by kernel_rfl) (by kernel_rfl) rfl rfl (Yl.field fo64_0 rfl) rfl ?_ -- t22
        refine WD.take 3 rfl (by kernel_rfl) (by kernel_rfl) (by kernel_rfl) rfl rfl (Yl.load on22 rfl (by repeat (first | exact Take1.head | apply Take1.tail)) (by rfl)) rfl ?_ -- t23
        refine WD.take 4 rfl (by kernel_rfl) (by kernel_rfl) (by kernel_rfl) rfl rfl (Yl.move rfl) rfl ?_ -- t24
        refine WD.take 5 rfl (by kernel_rfl) (by kernel_rfl) (by kernel_rfl) rfl rfl (Yl.index un22 sz33 rfl rfl (Reads.of (r := ownR (.slice ao l.length ca) 33 22 l.length (vcs rcV l)) RdOf.own (by repeat (first | exact Take1.head | apply Take1.tail))) rfl (by omega)) rfl ?_ -- t25
        refine WD.take 6 rfl (by kernel_rfl) (by kernel_rfl) (by kernel_rfl) rfl rfl (Yl.loadV (j := i) (u := x) vtR hR rfl (Reads.of (r := ownR (.slice ao l.length ca) 33 22 l.length (vcs rcV l)) RdOf.own (by repeat (first | exact Take1.head | apply Take1.tail))) rfl hx) rfl ?_
        refine WD.take 7 rfl (by kernel_rfl) (by kernel_rfl) (by kernel_rfl) rfl rfl (Yl.loadN ag33 rfl (by repeat (first | exact Take1.head | apply Take1.tail)) (leB (by rw [hr22]; omega)) (Rc.call hr.len)) rfl ?_ -- t27
        refine WD.take 9 rfl (by kernel_rfl) (by kernel_rfl) (by kernel_rfl) rfl rfl (Yl.move rfl) rfl ?_ -- t29
        refine WD.take 10 rfl (by kernel_rfl) (by kernel_rfl) (by kernel_rfl) rfl rfl (Yl.nilCheck rfl) rfl ?_ -- t30
        refine WD.take 11 rfl (by kernel_rfl) (by kernel_rfl) (by kernel_rfl) rfl rfl (Yl.field fo64_0 rfl) rfl ?_ -- t31
        refine WD.take 12 rfl (by kernel_rfl) (by kernel_rfl) (by kernel_rfl) rfl rfl (Yl.load on22 rfl (by repeat (first | exact Take1.head | apply Take1.tail)) (by rfl)) rfl ?_ -- t32
        refine WD.take 13 rfl (by kernel_rfl) (by kernel_rfl) (by kernel_rfl) rfl rfl (Yl.move rfl) rfl ?_ -- t33
        refine WD.take 14 rfl (by kernel_rfl) (by kernel_rfl) (by kernel_rfl) rfl rfl (Yl.index un22 sz33 rfl rfl (Reads.of (r := ownR (.slice ao l.length ca) 33 22 l.length (vcs rcV l)) RdOf.own (by repeat (first | exact Take1.head | apply Take1.tail))) rfl (by omega)) rfl ?_ -- t34
        refine WD.take 15 rfl (by kernel_rfl) (by kernel_rfl) (by kernel_rfl) rfl rfl (Yl.loadV (j := i) (u := x) vtR hR rfl (Reads.of (r := ownR (.slice ao l.length ca) 33 22 l.length (vcs rcV l)) RdOf.own (by repeat (first | exact Take1.head | apply Take1.tail))) rfl hx) rfl ?_
        refine WD.one 8 (by kernel_rfl) ?_
        refine WO.callC (xs := [.tmp 26, .tmp 27]) (cap := []) rfl .no rfl rfl en18 (by repeat (first | exact TakeL.nil | (apply TakeL.cons; · repeat (first | exact Take1.head | apply Take1.tail)))) (fun w hw => better_any x r hxb ⟨hr, hm⟩ w hw.left.here) rfl (fun _ => ⟨_, (by repeat (first | exact TakeL.nil | (apply TakeL.cons; · repeat (first | exact Take1.head | apply Take1.tail))))⟩) ?_ -- t28 hailer/merge.Better
        rintro ⟨⟩ -
        refine WD.take 16 rfl (by kernel_rfl) (by kernel_rfl) (by kernel_rfl) rfl rfl (Yl.eqA (xs := (betterF x r).cells) (ys := x.cells) flRec rfl rfl (better_ok hxb.ok hr).fits hxb.ok.fits) rfl ?_
        refine WD.say (t := 36) (v' := .bool (!decide (0 < betF x r))) rfl (by rw [Rc.eqV (better_ok hxb.ok hr) hxb.ok, better_same]) ?_
        refine WD.done (by kernel_rfl) ?_
        refine WC.cond rfl (fun g36 => ?_) (fun g36 => ?_)
        · refine WC.seq ?_
          refine WC.region ?_
          refine WL.y (Yl.assign rfl) rfl ?_ -- t4
          refine WL.y (Yl.assign rfl) rfl ?_ -- t5
          refine WL.nil ?_
          refine WC.ret ?_
          repeat (first | (with_reducible refine peelT ?_) | (with_reducible refine peelB ?_) | (with_reducible refine peelTX ?_) | (with_reducible refine peelBX ?_) | (with_reducible refine peelBN ?_) | (with_reducible refine peelBO rfl ?_))
          have h0 : ¬ 0 < betF x r := by simpa using g36
          rw [htk, if_neg h0]
          exact ret2 (.inr rfl) Tryz.results21 rfl rfl fun w' h => ⟨(ao, ca), trivial, rfl, h.sub (by repeat (first | exact TakeL.nil | (apply TakeL.cons; · repeat (first | exact Take1.head | apply Take1.tail))))⟩
        · refine WC.skip ?_
          refine WC.region ?_
          refine WL.y (Yl.move rfl) rfl ?_ -- t37
          refine WL.y (Yl.move rfl) rfl ?_ -- t38
          refine WL.y (Yl.nilCheck rfl) rfl ?_ -- t39
          refine WL.y (Yl.field fo64_0 rfl) rfl ?_ -- t40
          refine WL.y (Yl.load on22 rfl (by repeat (first | exact Take1.head | apply Take1.tail)) (by rfl)) rfl ?_ -- t41
          refine WL.callC (xs := [.tmp 41]) (cap := []) rfl rfl en51 (by repeat (first | exact TakeL.nil | (apply TakeL.cons; · repeat (first | exact Take1.head | apply Take1.tail)))) (fun w hw => cloneR_any (.slice ao l.length ca) l hR (by omega) w (hw.src (A := []) (r := ownR (.slice ao l.length ca) 33 22 l.length (vcs rcV l)) RdOf.own (by repeat (first | exact Take1.head | apply Take1.tail))) hw.left.here) rfl ?_ -- t42 slices.Clone[[]hailer/api.Record,hailer/api.Record]
          rintro ⟨a42, c42⟩ -
          dsimp only [List.cons_append, List.nil_append]
          refine WL.y (Yl.move rfl) rfl ?_ -- t43
          refine WL.y (Yl.move rfl) rfl ?_ -- t44
          refine WL.y (Yl.add rfl rfl (IntWalk.i64_in _ (by omega))) rfl ?_ -- t45
          refine WL.say (t := 45) (v' := .int .i64 ((i + 1 : Nat) : Int)) rfl (by rfl) ?_
          refine WL.callC (xs := [.tmp 42, .tmp 43, .tmp 45]) (cap := []) rfl rfl en50 (by repeat (first | exact TakeL.nil | (apply TakeL.cons; · repeat (first | exact Take1.head | apply Take1.tail)))) (fun w hw => delR_any a42 c42 l hR i (by omega) hil w hw.left.here) rfl ?_ -- t46 slices.Delete[[]hailer/api.Record,hailer/api.Record]
          rintro ⟨⟩ -
          dsimp only [List.cons_append, List.nil_append]
          refine WL.y (Yl.nilCheck rfl) rfl ?_ -- t47
          refine WL.y (Yl.field fo64_0 rfl) rfl ?_ -- t48
          refine WL.sto (Sto.one sz22 rfl rfl (by repeat (first | exact Take1.head | apply Take1.tail)) rfl (by rfl) (by rfl)) (fun _ h => nomatch h) ?_ -- st 1
          refine WL.nil ?_
          have h0 : 0 < betF x r := by simpa using g36
          have hdl : (l.take i ++ l.drop (i + 1)).length = l.length - 1 := by rw [List.length_append, List.length_take, List.length_drop]; omega
          exact ⟨rfl, ((a42, c42), l.take i ++ l.drop (i + 1)), ⟨(hB.del i).ordl, by dsimp only; rw [hdl]; omega, by rw [htk, if_pos h0]⟩, (by repeat (first | exact Sub.nil | refine Sub.cons rfl ?_)), _, by dsimp only; rw [hdl]; exact (by repeat (first | exact TakeL.nil | (apply TakeL.cons; · repeat (first | exact Take1.head | apply Take1.tail))))⟩
      · refine WC.skip ?_
        have hp : plcF l r.id = none := by
          cases e : plcF l r.id with
          | none => rfl
          | some i => unfold plcI at g19; rw [e] at g19; exact absurd (Int.natCast_nonneg i) g19
        exact ⟨rfl, ((ao, ca), l), ⟨hB.ordl, Nat.le_refl _, take_new hm hp⟩, (by repeat (first | exact Sub.nil | refine Sub.cons rfl ?_)), _, (by repeat (first | exact TakeL.nil | (apply TakeL.cons; · repeat (first | exact Take1.head | apply Take1.tail))))⟩
    · rintro ⟨⟨ao2, ca2⟩, l2⟩ ⟨hO2, hl2, ht2⟩
      dsimp only at hO2 hl2 ht2 ⊢
      have hm : mayB r = true := by simpa using g10
      rw [ht2, hm]
      refine WC.seq ?_
      refine WC.drawLast 9 (Hs := [blkR b 64 [.slice ao2 l2.length ca2], ownR (.slice ao2 l2.length ca2) 33 22 l2.length (vcs rcV l2), blkR b3 33 r.cells]) rfl rfl mixed (by kernel_rfl) ⟨_, (by repeat (first | exact TakeL.nil | (apply TakeL.cons; · repeat (first | exact Take1.head | apply Take1.tail))))⟩ ?_
      dsimp only [List.dropLast]
      refine WD.take 0 rfl (by kernel_rfl) (by kernel_rfl) (by kernel_rfl) rfl rfl (Yl.move rfl) rfl ?_ -- t49
      refine WD.take 1 rfl (by kernel_rfl) (by kernel_rfl) (by kernel_rfl) rfl rfl (Yl.move rfl) rfl ?_ -- t50
      refine WD.take 2 rfl (by kernel_rfl) (by kernel_rfl) (by kernel_rfl) rfl rfl (Yl.nilCheck rfl) rfl ?_ -- t51
      refine WD.take 3 rfl (by kernel_rfl) (by kernel_rfl) (by kernel_rfl) rfl rfl (Yl.field fo64_0 rfl) rfl ?_ -- t52
      refine WD.take 4 rfl (by kernel_rfl) (by kernel_rfl) (by kernel_rfl) rfl rfl (Yl.load on22 rfl (by repeat (first | exact Take1.head | apply Take1.tail)) (by rfl)) rfl ?_ -- t53
      refine WD.take 5 rfl (by kernel_rfl) (by kernel_rfl) (by kernel_rfl) rfl rfl (Yl.loadN ag33 rfl (by repeat (first | exact Take1.head | apply Take1.tail)) (leB (by rw [hr22]; omega)) (Rc.call hr.len)) rfl ?_ -- t54
      refine WD.one 6 (by kernel_rfl) ?_
      refine WO.callC (xs := [.tmp 53, .tmp 54, .func 47]) (cap := []) rfl .no rfl rfl en46 (by repeat (first | exact TakeL.nil | (apply TakeL.cons; · repeat (first | exact Take1.head | apply Take1.tail)))) (fun w hw => ordered_any (.slice ao2 l2.length ca2) l2 r (by omega) hO2 hr w (hw.src (A := []) (r := ownR (.slice ao2 l2.length ca2) 33 22 l2.length (vcs rcV l2)) RdOf.own (by repeat (first | exact Take1.head | apply Take1.tail))) hw.left.here) rfl (fun _ => ⟨_, (by repeat (first | exact TakeL.nil | (apply TakeL.cons; · repeat (first | exact Take1.head | apply Take1.tail))))⟩) ?_ -- t55 hailer/merge.ordered[hailer/api.Record]
      rintro ⟨a55, c55⟩ -
      dsimp only [List.cons_append, List.nil_append]
      refine WD.take 7 rfl (by kernel_rfl) (by kernel_rfl) (by kernel_rfl) rfl rfl (Yl.nilCheck rfl) rfl ?_ -- t56
      refine WD.take 8 rfl (by kernel_rfl) (by kernel_rfl) (by kernel_rfl) rfl rfl (Yl.field fo64_0 rfl) rfl ?_ -- t57
      refine WD.done (by kernel_rfl) ?_
      refine ⟨_, (Sto.one sz22 rfl rfl (by repeat (first | exact Take1.head | apply Take1.tail)) rfl (by rfl) (by rfl)), ?_⟩ -- st 2
      refine WC.seq ?_
      refine WC.region ?_
      refine WL.y (Yl.assign rfl) rfl ?_ -- t4
      refine WL.y (Yl.assign rfl) rfl ?_ -- t5
      refine WL.nil ?_
      refine WC.ret ?_
      repeat (first | (with_reducible refine peelT ?_) | (with_reducible refine peelB ?_) | (with_reducible refine peelTX ?_) | (with_reducible refine peelBX ?_) | (with_reducible refine peelBN ?_) | (with_reducible refine peelBO rfl ?_))
      exact ret2 (.inr rfl) Tryz.results21 rfl rfl fun w' h => ⟨(a55, c55), trivial, rfl, by dsimp only; rw [ins_len]; exact h.sub (by repeat (first | exact TakeL.nil | (apply TakeL.cons; · repeat (first | exact Take1.head | apply Take1.tail))))⟩
theorem allM_any (b : Nat) (ao : Option Addr) (ca : Nat) (l : List Rc) (hG : ROk l) (hl : l.length ≤ 1000000) (w : World) (hw : OK w (fpL ((bkR b ao ca l).map roR)) ((bkR b ao ca l).map roR) w) :
    Fn Tryz.prog 8 [.pointer (some ⟨b, 0, none⟩)] ((bkR b ao ca l).map roR) w (fun _ : Nat × (Nat → Prop) => True) (fun y => .func (.func 52) #[] #[.pointer (some ⟨y.1, 0, none⟩)]) (fun y => [itR Tryz.prog 52 [.pointer (some ⟨y.1, 0, none⟩)] y.2 (ysR l)]) := by
  unfold bkR at hw ⊢
  try dsimp only [List.map_cons, List.map_nil] at hw ⊢
  refine enterF Tryz.func8 rfl Tryz.ntmps8 rfl hw ?_
  refine WC.seq ?_
  refine WC.region ?_
  refine WL.y (Yl.assign rfl) rfl ?_ -- t2
  refine WL.nil ?_
  refine WC.seq ?_
  refine WC.seq ?_
  refine WC.region ?_
  refine WL.y (Yl.move rfl) rfl ?_ -- t3
  refine WL.y (Yl.nilEq un26 rfl rfl) rfl ?_ -- t4
  refine WL.know (t := 4) (b' := false) rfl (by first | rfl | (simp; done) | (simp; omega)) ?_
  refine WL.nil ?_
  refine WC.condF rfl (by first | rfl | (simp; done) | (simp; omega)) ?_
  refine WC.skip ?_
  refine WC.seq ?_
  refine WC.region ?_
  refine WL.y (Yl.move rfl) rfl ?_ -- t6
  refine WL.y (Yl.nilCheck rfl) rfl ?_ -- t7
  refine WL.y (Yl.field fo64_0 rfl) rfl ?_ -- t8
  refine WL.y (Yl.loadRo on22 rfl (by repeat (first | exact Take1.head | apply Take1.tail)) (by rfl)) rfl ?_
  refine WL.view (fun w h => h.roRead (v := .slice ao l.length ca) (e := 33) (by repeat (first | exact Take1.head | apply Take1.tail))) ?_
  refine WL.callC (xs := [.tmp 9]) (cap := []) rfl rfl en24 (by repeat (first | exact TakeL.nil | (apply TakeL.cons; · repeat (first | exact Take1.head | apply Take1.tail)))) (fun w hw => val_any (.slice ao l.length ca) l hG hl w hw.left.here) rfl ?_ -- t10 slices.Values[[]hailer/api.Record,hailer/api.Record]
  rintro ⟨y1, own⟩ -
  refine WL.y (Yl.assign rfl) rfl ?_ -- t2
  refine WL.nil ?_
  refine WC.ret ?_
  repeat (first | (with_reducible refine peelT ?_) | (with_reducible refine peelB ?_) | (with_reducible refine peelTX ?_) | (with_reducible refine peelBX ?_) | (with_reducible refine peelBN ?_) | (with_reducible refine peelBO rfl ?_))
  exact ret1 (.inr rfl) Tryz.results8 rfl fun w' h => ⟨(y1, own), trivial, rfl, h.sub (by repeat (first | exact TakeL.nil | (apply TakeL.cons; · repeat (first | exact Take1.head | apply Take1.tail))))⟩
theorem allNil_any (w : World) (hw : OK w (fpL []) [] w) :
    Fn Tryz.prog 8 [.pointer none] [] w (fun _ : Nat × (Nat → Prop) => True) (fun y => .func (.func 52) #[] #[.pointer (some ⟨y.1, 0, none⟩)]) (fun y => [itR Tryz.prog 52 [.pointer (some ⟨y.1, 0, none⟩)] y.2 (ysR [])]) := by
  refine enterF Tryz.func8 rfl Tryz.ntmps8 rfl hw ?_
  refine WC.seq ?_
  refine WC.region ?_
  refine WL.y (Yl.assign rfl) rfl ?_ -- t2
  refine WL.nil ?_
  refine WC.seq ?_
  refine WC.seq ?_
  refine WC.region ?_
  refine WL.y (Yl.move rfl) rfl ?_ -- t3
  refine WL.y (Yl.nilEq un26 rfl rfl) rfl ?_ -- t4
  refine WL.know (t := 4) (b' := true) rfl (by first | rfl | (simp; done) | (simp; omega)) ?_
  refine WL.nil ?_
  refine WC.condT rfl (by first | rfl | (simp; done) | (simp; omega)) ?_
  refine WC.seq ?_
  refine WC.region ?_
  refine WL.view (fun w h => (h.addNil 33 22).readOnly (v := .slice none 0 0) .head) ?_
  refine WL.callC (xs := [_]) (cap := []) rfl rfl en24 (by repeat (first | exact TakeL.nil | (apply TakeL.cons; · repeat (first | exact Take1.head | apply Take1.tail)))) (fun w hw => val_any (.slice none 0 0) [] (fun _ h => nomatch h) (by simp) w hw.left.here) rfl ?_ -- t5 slices.Values[[]hailer/api.Record,hailer/api.Record]
  rintro ⟨y1, own⟩ -
  dsimp only [List.cons_append, List.nil_append]
  refine WL.y (Yl.assign rfl) rfl ?_ -- t2
  refine WL.nil ?_
  refine WC.ret ?_
  repeat (first | (with_reducible refine peelT ?_) | (with_reducible refine peelB ?_) | (with_reducible refine peelTX ?_) | (with_reducible refine peelBX ?_) | (with_reducible refine peelBN ?_) | (with_reducible refine peelBO rfl ?_))
  exact ret1 (.inr rfl) Tryz.results8 rfl fun w' h => ⟨(y1, own), trivial, rfl, h.sub (by repeat (first | exact TakeL.nil | (apply TakeL.cons; · repeat (first | exact Take1.head | apply Take1.tail))))⟩
/-- The one of an id. -/
def findF (xs : List Rc) (id : List Int) : Option Rc := xs.find? fun x => decide (x.id = id)
theorem find_at {α : Type} {p : α → Bool} : ∀ {zs : List α} {i : Nat} {x : α}, zs[i]? = some x → (∀ y ∈ zs.take i, p y = false) → p x = true → zs.find? p = some x
  | [], _, _, h, _, _ => by simp at h
  | y :: zs, 0, x, h, _, hp => by simp at h; subst h; simp [hp]
  | y :: zs, i + 1, x, h, hn, hp => by
    have hy := hn y (by simp)
    rw [List.find?_cons_of_neg (by simp [hy])]
    exact find_at (i := i) (by simpa using h) (fun z hz => hn z (by simp [hz])) hp
theorem find_no {α : Type} {p : α → Bool} {zs : List α} (h : ∀ y ∈ zs, p y = false) : zs.find? p = none := by
  rw [List.find?_eq_none]
  intro x hx
  simp [h x hx]
theorem hno_next {α : Type} {p : α → Bool} {xs : List α} {j : Nat} {x : α} (hx : xs[j]? = some x) (hn : ∀ y ∈ xs.take j, p y = false) (hp : p x = false) : ∀ y ∈ xs.take (j + 1), p y = false := by
  intro y hy
  rw [← take_snoc _ _ _ hx] at hy
  rcases List.mem_append.1 hy with hy | hy
  · exact hn y hy
  · rw [List.mem_singleton.1 hy]; exact hp
theorem findM_any (b : Nat) (ao : Option Addr) (ca : Nat) (xs : List Rc) (hG : ROk xs) (hl : xs.length ≤ 1000000) (id : List Int) (hid : id.length = 16) (hib : Bytes id) (w : World) (hw : OK w (fpL ((bkR b ao ca xs).map roR)) ((bkR b ao ca xs).map roR) w) :
    Fn Tryz.prog 45 [.pointer (some ⟨b, 0, none⟩), .agg (ints .u8 id).toArray] ((bkR b ao ca xs).map roR) w (fun _ : Unit => True) (fun _ => .tuple #[.agg ((findF xs id).getD Rc.zero).cells.toArray, .bool (findF xs id).isSome]) (fun _ => []) := by
  unfold bkR at hw ⊢
  try dsimp only [List.map_cons, List.map_nil] at hw ⊢
  have hil : (ints .u8 id).length = 16 := by rw [ints_length, hid]
  refine enterM Tryz.func45 rfl Tryz.ntmps45 rfl hw ?_
  refine WC.seq ?_
  refine WC.region ?_
  refine WL.to (To.box (cs := ints .u8 id) rfl rfl) rfl ?_ -- t3
  intro b3
  refine WL.to (To.alloc (cs := Rc.zero.cells) zr33 rfl) rfl ?_ -- t4
  intro b4
  refine WL.to (To.alloc (cs := [.bool false]) zr4 rfl) rfl ?_ -- t5
  intro b5
  refine WL.nil ?_
  refine WC.seq ?_
  refine WC.seq ?_
  refine WC.region ?_
  refine WL.y (Yl.move rfl) rfl ?_ -- t7
  refine WL.callC (xs := [.tmp 7]) (cap := []) rfl rfl en8 (by repeat (first | exact TakeL.nil | (apply TakeL.cons; · repeat (first | exact Take1.head | apply Take1.tail)))) (fun w hw => allM_any b ao ca xs hG hl w hw.left.here) rfl ?_ -- t8 (*hailer/merge.Book).All
  rintro ⟨bn, own⟩ -
  refine WL.nil ?_
  refine WC.block ?_
  refine WC.range (α := Unit) (xs := ysR xs) (fun i _ => [blkR b3 30 (ints .u8 id), blkR b4 33 Rc.zero.cells, blkR b5 4 [.bool false]]) (fun i _ => ∀ y ∈ xs.take i, decide (y.id = id) = false) () rfl en52 ysR_size rfl (by repeat (first | exact Take1.head | apply Take1.tail)) (by simp) (by repeat (first | exact TakeL.nil | (apply TakeL.cons; · repeat (first | exact Take1.head | apply Take1.tail)))) ?_ ?_
  · intro l i x _ hx hs W
    obtain ⟨x, hx0, rfl⟩ := ysR_at hx
    have hxo : x.ok := hG.get hx0
    have h22 := Rc.cells_len hxo.len
    show WC _ _ _ ((9, .agg x.cells.toArray) :: _) _ _
    refine WC.region ?_
    refine WL.to (To.alloc (cs := Rc.zero.cells) zr33 rfl) rfl ?_ -- t6
    intro b6
    refine WL.sto (Sto.agg sz33 rfl rfl (by repeat (first | exact Take1.head | apply Take1.tail)) (Rc.ones _) h22 (by rfl) (Rc.all (r := Rc.zero) rfl x.cells h22)) (fun _ h => nomatch h) ?_ -- st 1
    refine WL.nil ?_
    repeat (first | (with_reducible refine peelT ?_) | (with_reducible refine peelB ?_) | (with_reducible refine peelTX ?_) | (with_reducible refine peelBX ?_) | (with_reducible refine peelBN ?_) | (with_reducible refine peelBO rfl ?_))
    refine fun W2 => ?_
    refine WC.block ?_
    refine WC.seq ?_
    refine WC.region ?_
    refine WL.y (Yl.field fo33_0 rfl) rfl ?_ -- t10
    refine WL.y (Yl.loadN ag30 rfl (by repeat (first | exact Take1.head | apply Take1.tail)) (leB (by rw [h22]; omega)) (Rc.cid hxo.len)) rfl ?_ -- t11
    refine WL.y (Yl.loadN ag30 rfl (by repeat (first | exact Take1.head | apply Take1.tail)) (leB (by rw [hil]; omega)) (show _ = ints .u8 id by rw [List.drop_zero, List.take_of_length_le (by rw [hil]; omega)])) rfl ?_ -- t12
    refine WL.y (Yl.eqA flId rfl rfl (fitsId hxo.len hxo.id) (fitsId hid hib)) rfl ?_
    rw [eqV_ints]
    refine WL.nil ?_
    refine WC.cond rfl (fun g13 => ?_) (fun g13 => ?_)
    · refine WC.seq ?_
      refine WC.region ?_
      refine WL.y (Yl.loadN ag33 rfl (by repeat (first | exact Take1.head | apply Take1.tail)) (leB (by rw [h22]; omega)) (Rc.call hxo.len)) rfl ?_ -- t14
      refine WL.sto (Sto.agg sz33 rfl rfl (by repeat (first | exact Take1.head | apply Take1.tail)) (Rc.ones _) h22 (by rfl) (Rc.all (r := Rc.zero) rfl x.cells h22)) (fun _ h => nomatch h) ?_ -- st 2
      refine WL.sto (Sto.one sz4 rfl rfl (by repeat (first | exact Take1.head | apply Take1.tail)) rfl (by rfl) (by rfl)) (fun _ h => nomatch h) ?_ -- st 3
      refine WL.nil ?_
      refine WC.ret ?_
      repeat (first | (with_reducible refine peelT ?_) | (with_reducible refine peelB ?_) | (with_reducible refine peelTX ?_) | (with_reducible refine peelBX ?_) | (with_reducible refine peelBN ?_) | (with_reducible refine peelBO rfl ?_))
      have hf : findF xs id = some x := find_at hx0 hs (by simpa using g13)
      rw [hf]
      refine ⟨[blkR b4 33 x.cells, blkR b5 4 [.bool true]], _, (by repeat (first | exact TakeL.nil | (apply TakeL.cons; · repeat (first | exact Take1.head | apply Take1.tail)))), fun D => ?_⟩
      repeat (first | (with_reducible refine peelT ?_) | (with_reducible refine peelB ?_) | (with_reducible refine peelTX ?_) | (with_reducible refine peelBX ?_) | (with_reducible refine peelBN ?_) | (with_reducible refine peelBO rfl ?_))
      refine retM.of (.cons (by repeat (first | exact Take1.head | apply Take1.tail)) .nil) ?_
      first | exact retCV (.inr rfl) Tryz.results45 ag33 on4 rfl rfl (by repeat (first | exact Take1.head | apply Take1.tail)) (by repeat (first | exact Take1.head | apply Take1.tail)) h22 fun w' h => ⟨(), trivial, rfl, h.sub (by repeat (first | exact TakeL.nil | (apply TakeL.cons; · repeat (first | exact Take1.head | apply Take1.tail))))⟩ | exact retCV (.inr rfl) Tryz.results45 ag33 on4 rfl rfl (by repeat (first | exact Take1.head | apply Take1.tail)) (by repeat (first | exact Take1.head | apply Take1.tail)) rfl fun w' h => ⟨(), trivial, rfl, h.sub (by repeat (first | exact TakeL.nil | (apply TakeL.cons; · repeat (first | exact Take1.head | apply Take1.tail))))⟩
    · refine WC.skip ?_
      repeat (first | (with_reducible refine peelT ?_) | (with_reducible refine peelB ?_) | (with_reducible refine peelTX ?_) | (with_reducible refine peelBX ?_) | (with_reducible refine peelBN ?_) | (with_reducible refine peelBO rfl ?_))
      exact ⟨[blkR b3 30 (ints .u8 id), blkR b4 33 Rc.zero.cells, blkR b5 4 [.bool false]], _, (by repeat (first | exact TakeL.nil | (apply TakeL.cons; · repeat (first | exact Take1.head | apply Take1.tail)))), (), hno_next (p := fun y : Rc => decide (y.id = id)) hx0 hs (by simpa using g13), rfl⟩
  · rintro _ D hs
    have hf : findF xs id = none := find_no (by rw [ysR_len, List.take_length] at hs; exact hs)
    rw [hf]
    dsimp only [List.cons_append, List.nil_append]
    refine WC.seq ?_
    refine WC.region ?_
    refine WL.y (Yl.build rfl (cs := Rc.zero.cells) (fun _ => by kernel_rfl)) rfl ?_ -- t15
    refine WL.sto (Sto.agg sz33 rfl rfl (by repeat (first | exact Take1.head | apply Take1.tail)) (Rc.ones _) rfl (by rfl) (Rc.all (r := Rc.zero) rfl Rc.zero.cells rfl)) (fun _ h => nomatch h) ?_ -- st 4
    refine WL.sto (Sto.one sz4 rfl rfl (by repeat (first | exact Take1.head | apply Take1.tail)) rfl (by rfl) (by rfl)) (fun _ h => nomatch h) ?_ -- st 5
    refine WL.nil ?_
    refine WC.ret ?_
    repeat (first | (with_reducible refine peelT ?_) | (with_reducible refine peelB ?_) | (with_reducible refine peelTX ?_) | (with_reducible refine peelBX ?_) | (with_reducible refine peelBN ?_) | (with_reducible refine peelBO rfl ?_))
    refine retM.of (.cons (by repeat (first | exact Take1.head | apply Take1.tail)) .nil) ?_
    first | exact retCV (.inr rfl) Tryz.results45 ag33 on4 rfl rfl (by repeat (first | exact Take1.head | apply Take1.tail)) (by repeat (first | exact Take1.head | apply Take1.tail)) h22 fun w' h => ⟨(), trivial, rfl, h.sub (by repeat (first | exact TakeL.nil | (apply TakeL.cons; · repeat (first | exact Take1.head | apply Take1.tail))))⟩ | exact retCV (.inr rfl) Tryz.results45 ag33 on4 rfl rfl (by repeat (first | exact Take1.head | apply Take1.tail)) (by repeat (first | exact Take1.head | apply Take1.tail)) rfl fun w' h => ⟨(), trivial, rfl, h.sub (by repeat (first | exact TakeL.nil | (apply TakeL.cons; · repeat (first | exact Take1.head | apply Take1.tail))))⟩
theorem findNil_any (id : List Int) (hid : id.length = 16) (hib : Bytes id) (w : World) (hw : OK w (fpL []) [] w) :
    Fn Tryz.prog 45 [.pointer none, .agg (ints .u8 id).toArray] [] w (fun _ : Unit => True) (fun _ => .tuple #[.agg Rc.zero.cells.toArray, .bool false]) (fun _ => []) := by
  have hil : (ints .u8 id).length = 16 := by rw [ints_length, hid]
  refine enterM Tryz.func45 rfl Tryz.ntmps45 rfl hw ?_
  refine WC.seq ?_
  refine WC.region ?_
  refine WL.to (To.box (cs := ints .u8 id) rfl rfl) rfl ?_ -- t3
  intro b3
  refine WL.to (To.alloc (cs := Rc.zero.cells) zr33 rfl) rfl ?_ -- t4
  intro b4
  refine WL.to (To.alloc (cs := [.bool false]) zr4 rfl) rfl ?_ -- t5
  intro b5
  refine WL.nil ?_
  refine WC.seq ?_
  refine WC.seq ?_
  refine WC.region ?_
  refine WL.y (Yl.move rfl) rfl ?_ -- t7
  refine WL.callC (xs := [.tmp 7]) (cap := []) rfl rfl en8 (by repeat (first | exact TakeL.nil | (apply TakeL.cons; · repeat (first | exact Take1.head | apply Take1.tail)))) (fun w hw => allNil_any w hw.left.here) rfl ?_ -- t8 (*hailer/merge.Book).All
  rintro ⟨bn, own⟩ -
  refine WL.nil ?_
  refine WC.block ?_
  refine WC.range (α := Unit) (xs := ysR []) (fun i _ => [blkR b3 30 (ints .u8 id), blkR b4 33 Rc.zero.cells, blkR b5 4 [.bool false]]) (fun i _ => True) () rfl en52 ysR_size rfl (by repeat (first | exact Take1.head | apply Take1.tail)) trivial (by repeat (first | exact TakeL.nil | (apply TakeL.cons; · repeat (first | exact Take1.head | apply Take1.tail)))) (fun l i x s hx => by simp [ysR] at hx) ?_
  rintro _ D -
  dsimp only [List.cons_append, List.nil_append]
  refine WC.seq ?_
  refine WC.region ?_
  refine WL.y (Yl.build rfl (cs := Rc.zero.cells) (fun _ => by kernel_rfl)) rfl ?_ -- t15
  refine WL.sto (Sto.agg sz33 rfl rfl (by repeat (first | exact Take1.head | apply Take1.tail)) (Rc.ones _) rfl (by rfl) (Rc.all (r := Rc.zero) rfl Rc.zero.cells rfl)) (fun _ h => nomatch h) ?_ -- st 4
  refine WL.sto (Sto.one sz4 rfl rfl (by repeat (first | exact Take1.head | apply Take1.tail)) rfl (by rfl) (by rfl)) (fun _ h => nomatch h) ?_ -- st 5
  refine WL.nil ?_
  refine WC.ret ?_
  repeat (first | (with_reducible refine peelT ?_) | (with_reducible refine peelB ?_) | (with_reducible refine peelTX ?_) | (with_reducible refine peelBX ?_) | (with_reducible refine peelBN ?_) | (with_reducible refine peelBO rfl ?_))
  refine retM.of (.cons (by repeat (first | exact Take1.head | apply Take1.tail)) .nil) ?_
  exact retCV (.inr rfl) Tryz.results45 ag33 on4 rfl rfl (by repeat (first | exact Take1.head | apply Take1.tail)) (by repeat (first | exact Take1.head | apply Take1.tail)) rfl fun w' h => ⟨(), trivial, rfl, h.sub (by repeat (first | exact TakeL.nil | (apply TakeL.cons; · repeat (first | exact Take1.head | apply Take1.tail))))⟩
theorem lenM_any (b : Nat) (v : Option Addr × Nat × Nat) (w : World) (hb : BlkS w (fpL []) b 64 [.slice v.1 v.2.1 v.2.2]) (hw : OK w (fpL []) [] w) :
    Fn Tryz.prog 19 [.pointer (some ⟨b, 0, none⟩)] [] w (fun _ : Unit => True) (fun _ => .int .i64 (v.2.1 : Int)) (fun _ => []) := by
  refine enterF Tryz.func19 rfl Tryz.ntmps19 rfl hw ?_
  refine WC.seq ?_
  refine WC.region ?_
  refine WL.y (Yl.assign rfl) rfl ?_ -- t2
  refine WL.nil ?_
  refine WC.seq ?_
  refine WC.seq ?_
  refine WC.region ?_
  refine WL.y (Yl.move rfl) rfl ?_ -- t3
  refine WL.y (Yl.nilEq un26 rfl rfl) rfl ?_ -- t4
  refine WL.know (t := 4) (b' := false) rfl (by first | rfl | (simp; done) | (simp; omega)) ?_
  refine WL.nil ?_
  refine WC.condF rfl (by first | rfl | (simp; done) | (simp; omega)) ?_
  refine WC.skip ?_
  refine WC.seq ?_
  refine WC.region ?_
  refine WL.y (Yl.move rfl) rfl ?_ -- t5
  refine WL.y (Yl.nilCheck rfl) rfl ?_ -- t6
  refine WL.y (Yl.field fo64_0 rfl) rfl ?_ -- t7
  refine WL.y (Yl.loadS on22 rfl hb (by rfl)) rfl ?_ -- t8
  refine WL.y (Yl.len un22 rfl) rfl ?_ -- t9
  refine WL.y (Yl.assign rfl) rfl ?_ -- t2
  refine WL.nil ?_
  refine WC.ret ?_
  repeat (first | (with_reducible refine peelT ?_) | (with_reducible refine peelB ?_) | (with_reducible refine peelTX ?_) | (with_reducible refine peelBX ?_) | (with_reducible refine peelBN ?_) | (with_reducible refine peelBO rfl ?_))
  exact ret1 (.inr rfl) Tryz.results19 rfl fun w' h => ⟨(), trivial, rfl, h.sub (by repeat (first | exact TakeL.nil | (apply TakeL.cons; · repeat (first | exact Take1.head | apply Take1.tail))))⟩
theorem lenNil_any (w : World) (hw : OK w (fpL []) [] w) : Fn Tryz.prog 19 [.pointer none] [] w (fun _ : Unit => True) (fun _ => .int .i64 0) (fun _ => []) := by
  refine enterF Tryz.func19 rfl Tryz.ntmps19 rfl hw ?_
  refine WC.seq ?_
  refine WC.region ?_
  refine WL.y (Yl.assign rfl) rfl ?_ -- t2
  refine WL.nil ?_
  refine WC.seq ?_
  refine WC.seq ?_
  refine WC.region ?_
  refine WL.y (Yl.move rfl) rfl ?_ -- t3
  refine WL.y (Yl.nilEq un26 rfl rfl) rfl ?_ -- t4
  refine WL.know (t := 4) (b' := true) rfl (by first | rfl | (simp; done) | (simp; omega)) ?_
  refine WL.nil ?_
  refine WC.condT rfl (by first | rfl | (simp; done) | (simp; omega)) ?_
  refine WC.seq ?_
  refine WC.region ?_
  refine WL.y (Yl.assign rfl) rfl ?_ -- t2
  refine WL.nil ?_
  refine WC.ret ?_
  repeat (first | (with_reducible refine peelT ?_) | (with_reducible refine peelB ?_) | (with_reducible refine peelTX ?_) | (with_reducible refine peelBX ?_) | (with_reducible refine peelBN ?_) | (with_reducible refine peelBO rfl ?_))
  exact ret1 (.inr rfl) Tryz.results19 rfl fun w' h => ⟨(), trivial, rfl, h.sub (by repeat (first | exact TakeL.nil | (apply TakeL.cons; · repeat (first | exact Take1.head | apply Take1.tail))))⟩
theorem newM_any (w : World) (hw : OK w (fpL []) [] w) : Fn Tryz.prog 25 [] [] w (fun _ : Nat => True) (fun y => .pointer (some ⟨y, 0, none⟩)) (fun y => bkR y none 0 []) := by
  refine enterF Tryz.func25 rfl Tryz.ntmps25 rfl hw ?_
  refine WC.seq ?_
  refine WC.region ?_
  refine WL.y (Yl.assign rfl) rfl ?_ -- t0
  refine WL.nil ?_
  refine WC.seq ?_
  refine WC.region ?_
  refine WL.y (Yl.build rfl (cs := [.slice none 0 0]) (fun _ => by kernel_rfl)) rfl ?_ -- t1
  refine WL.to (To.box (cs := [.slice none 0 0]) rfl rfl) rfl ?_ -- t2
  intro b2
  refine WL.y (Yl.assign rfl) rfl ?_ -- t0
  refine WL.nil ?_
  refine WC.ret ?_
  repeat (first | (with_reducible refine peelT ?_) | (with_reducible refine peelB ?_) | (with_reducible refine peelTX ?_) | (with_reducible refine peelBX ?_) | (with_reducible refine peelBN ?_) | (with_reducible refine peelBO rfl ?_))
  exact ret1 (.inr rfl) Tryz.results25 rfl fun w' h => ⟨b2, trivial, rfl, (h.addNil 33 22).sub (B := [blkR b2 64 [.slice none 0 0], ownR (.slice none 0 0) 33 22 0 (vcs rcV [])]) (by repeat (first | exact TakeL.nil | (apply TakeL.cons; · repeat (first | exact Take1.head | apply Take1.tail))))⟩
set_option maxRecDepth 100000 in
theorem join_any (b : Nat) (ao : Option Addr) (ca : Nat) (l : List Rc) (gf : Nat) (lb : List Value) (own : Nat → Prop) (xs : List Rc) (eg : ∀ args w, (callFunc gf args).run Tryz.prog w = .ok (.enter gf args) w) (hB : Book l) (hG : ROk xs) (hl : l.length + xs.length ≤ 999999) (w : World) (hw : OK w (fpL (itR Tryz.prog gf lb own (ysR xs) :: bkR b ao ca l)) (itR Tryz.prog gf lb own (ysR xs) :: bkR b ao ca l) w) :
    Fn Tryz.prog 23 [.pointer (some ⟨b, 0, none⟩), .func (.func gf) #[] lb.toArray] (itR Tryz.prog gf lb own (ysR xs) :: bkR b ao ca l) w (fun _ : Option Addr × Nat => True) (fun _ => .int .i64 ((joinF l xs).2 : Int)) (fun y => bkR b y.1 y.2 (joinF l xs).1) := by
  unfold bkR at hw ⊢
  refine enterM Tryz.func23 rfl Tryz.ntmps23 rfl hw ?_
  refine WC.seq ?_
  refine WC.region ?_
  refine WL.to (To.box (cs := [.pointer (some ⟨b, 0, none⟩)]) rfl rfl) rfl ?_ -- t2
  intro b2
  refine WL.y (Yl.assign rfl) rfl ?_ -- t4
  refine WL.nil ?_
  refine WC.seq ?_
  refine WC.region ?_
  refine WL.to (To.alloc (cs := [.int .i64 0]) zr3 rfl) rfl ?_ -- t5
  intro b5
  refine WL.sto (Sto.one sz3 rfl rfl (by repeat (first | exact Take1.head | apply Take1.tail)) rfl (by rfl) (by rfl)) (fun _ h => nomatch h) ?_ -- st 1
  refine WL.nil ?_
  refine WC.seq ?_
  refine WC.seq ?_
  refine WC.region ?_
  refine WL.y (Yl.move rfl) rfl ?_ -- t9
  refine WL.y (Yl.eqNilF (t := 35) (by kernel_rfl) rfl rfl) rfl ?_
  refine WL.nil ?_
  refine WC.condF rfl (by first | rfl | (simp; done) | (simp; omega)) ?_
  refine WC.skip ?_
  refine WC.seq ?_
  refine WC.seq ?_
  refine WC.region ?_
  refine WL.y (Yl.move rfl) rfl ?_ -- t11
  refine WL.nil ?_
  refine WC.block ?_
  refine WC.range (α := Option Addr × Nat) (lb := lb) (xs := ysR xs) (fun i s => [blkR b2 26 [.pointer (some ⟨b, 0, none⟩)], blkR b5 3 [.int .i64 ((joinF l (xs.take i)).2 : Int)], blkR b 64 [.slice s.1 (joinF l (xs.take i)).1.length s.2], ownR (.slice s.1 (joinF l (xs.take i)).1.length s.2) 33 22 (joinF l (xs.take i)).1.length (vcs rcV (joinF l (xs.take i)).1)]) (fun _ _ => True) (ao, ca) rfl eg ysR_size rfl (by repeat (first | exact Take1.head | apply Take1.tail)) trivial (by repeat (first | exact TakeL.nil | (apply TakeL.cons; · repeat (first | exact Take1.head | apply Take1.tail)))) ?_ ?_
  · rintro l2 i x ⟨ao1, ca1⟩ hx - W
    obtain ⟨x, hx0, rfl⟩ := ysR_at hx
    have hil := (List.getElem?_eq_some_iff.1 hx0).1
    have hxo : x.ok := hG.get hx0
    have h22 := Rc.cells_len hxo.len
    have hnx : xs.take (i + 1) = xs.take i ++ [x] := (take_snoc _ _ _ hx0).symm
    have hBi : Book (joinF l (xs.take i)).1 := hB.join (fun r hr => hG r (List.mem_of_mem_take hr))
    obtain ⟨hl1, hl2⟩ := join_len (xs.take i) l
    have htl : (xs.take i).length = i := by rw [List.length_take]; omega
    have hsn := join_snoc (xs.take i) l x
    rw [← hnx] at hsn
    obtain ⟨m, hm⟩ : ∃ m, joinF l (xs.take i) = m := ⟨_, rfl⟩
    rw [hm] at hBi hl1 hl2 hsn ⊢
    dsimp only
    show WC _ _ _ ((12, .agg x.cells.toArray) :: _) _ _
    refine WC.region ?_
    refine WL.to (To.alloc (cs := Rc.zero.cells) zr33 rfl) rfl ?_ -- t6
    intro b6
    refine WL.sto (Sto.agg sz33 rfl rfl (by repeat (first | exact Take1.head | apply Take1.tail)) (Rc.ones _) h22 (by rfl) (Rc.all (r := Rc.zero) rfl x.cells h22)) (fun _ h => nomatch h) ?_ -- st 2
    refine WL.nil ?_
    repeat (first | (with_reducible refine peelT ?_) | (with_reducible refine peelB ?_) | (with_reducible refine peelTX ?_) | (with_reducible refine peelBX ?_) | (with_reducible refine peelBN ?_) | (with_reducible refine peelBO rfl ?_))
    refine fun W2 => ?_
    refine WC.block ?_
    refine WC.seq ?_
    refine WC.region ?_
    refine WL.y (Yl.load on26 rfl (by repeat (first | exact Take1.head | apply Take1.tail)) (by rfl)) rfl ?_ -- t14
    refine WL.y (Yl.loadN ag33 rfl (by repeat (first | exact Take1.head | apply Take1.tail)) (leB (by rw [h22]; omega)) (Rc.call hxo.len)) rfl ?_ -- t15
    refine WL.callC (xs := [.tmp 14, .tmp 15]) (cap := []) rfl rfl en21 (by repeat (first | exact TakeL.nil | (apply TakeL.cons; · repeat (first | exact Take1.head | apply Take1.tail)))) (fun w hw => takeM_any b ao1 ca1 m.1 x hBi hxo (by omega) w hw.left.here) rfl ?_ -- t16 (*hailer/merge.Book).Take
    rintro ⟨ao2, ca2⟩ -
    dsimp only [bkR, List.cons_append, List.nil_append]
    refine WL.y (Yl.move rfl) rfl ?_ -- t13
    refine WL.y (Yl.extract rfl rfl) rfl ?_ -- t17
    refine WL.y (Yl.extract rfl rfl) rfl ?_ -- t18
    refine WL.y (Yl.assign rfl) rfl ?_ -- t7
    refine WL.y (Yl.assign rfl) rfl ?_ -- t8
    refine WL.nil ?_
    refine WC.seq ?_
    refine WC.region ?_
    refine WL.y (Yl.move rfl) rfl ?_ -- t19
    refine WL.nil ?_
    refine WC.cond rfl (fun g19 => ?_) (fun g19 => ?_)
    · refine WC.region ?_
      refine WL.y (Yl.load on3 rfl (by repeat (first | exact Take1.head | apply Take1.tail)) (by rfl)) rfl ?_ -- t20
      refine WL.y (Yl.add rfl rfl (IntWalk.i64_in _ (by omega))) rfl ?_ -- t21
      refine WL.say (t := 21) (v' := .int .i64 ((m.2 + 1 : Nat) : Int)) rfl (by rfl) ?_
      refine WL.sto (Sto.one sz3 rfl rfl (by repeat (first | exact Take1.head | apply Take1.tail)) rfl (by rfl) (by rfl)) (fun _ h => nomatch h) ?_ -- st 3
      refine WL.nil ?_
      repeat (first | (with_reducible refine peelT ?_) | (with_reducible refine peelB ?_) | (with_reducible refine peelTX ?_) | (with_reducible refine peelBX ?_) | (with_reducible refine peelBN ?_) | (with_reducible refine peelBO rfl ?_))
      exact ⟨[blkR b2 26 [.pointer (some ⟨b, 0, none⟩)], blkR b5 3 [.int .i64 ((m.2 + 1 : Nat) : Int)], blkR b 64 [.slice ao2 (takeF m.1 x).1.length ca2], ownR (.slice ao2 (takeF m.1 x).1.length ca2) 33 22 (takeF m.1 x).1.length (vcs rcV (takeF m.1 x).1)], _, (by repeat (first | exact TakeL.nil | (apply TakeL.cons; · repeat (first | exact Take1.head | apply Take1.tail)))), (ao2, ca2), trivial, by rw [hsn, g19]; rfl⟩
    · refine WC.skip ?_
      repeat (first | (with_reducible refine peelT ?_) | (with_reducible refine peelB ?_) | (with_reducible refine peelTX ?_) | (with_reducible refine peelBX ?_) | (with_reducible refine peelBN ?_) | (with_reducible refine peelBO rfl ?_))
      exact ⟨[blkR b2 26 [.pointer (some ⟨b, 0, none⟩)], blkR b5 3 [.int .i64 (m.2 : Int)], blkR b 64 [.slice ao2 (takeF m.1 x).1.length ca2], ownR (.slice ao2 (takeF m.1 x).1.length ca2) 33 22 (takeF m.1 x).1.length (vcs rcV (takeF m.1 x).1)], _, (by repeat (first | exact TakeL.nil | (apply TakeL.cons; · repeat (first | exact Take1.head | apply Take1.tail)))), (ao2, ca2), trivial, by rw [hsn, g19]; rfl⟩
  · rintro ⟨ao1, ca1⟩ D -
    rw [ysR_len, List.take_length]
    dsimp only [List.cons_append, List.nil_append]
    refine WC.seq ?_
    refine WC.region ?_
    refine WL.y (Yl.load on3 rfl (by repeat (first | exact Take1.head | apply Take1.tail)) (by rfl)) rfl ?_ -- t22
    refine WL.y (Yl.assign rfl) rfl ?_ -- t4
    refine WL.nil ?_
    refine WC.ret ?_
    repeat (first | (with_reducible refine peelT ?_) | (with_reducible refine peelB ?_) | (with_reducible refine peelTX ?_) | (with_reducible refine peelBX ?_) | (with_reducible refine peelBN ?_) | (with_reducible refine peelBO rfl ?_))
    refine retM.of (.cons (by repeat (first | exact Take1.head | apply Take1.tail)) .nil) ?_
    exact ret1 (.inr rfl) Tryz.results23 rfl fun w' h => ⟨(ao1, ca1), trivial, rfl, h.sub (by repeat (first | exact TakeL.nil | (apply TakeL.cons; · repeat (first | exact Take1.head | apply Take1.tail))))⟩
theorem ofB_any (v : Value) (xs : List Rc) (hG : ROk xs) (hl : xs.length ≤ 999999) (w : World) (hw : OK w (fpL [rdR v 22 xs.length (vcs rcV xs)]) [rdR v 22 xs.length (vcs rcV xs)] w) :
    Fn Tryz.prog 6 [v] [rdR v 22 xs.length (vcs rcV xs)] w (fun _ : Nat × Option Addr × Nat => True) (fun y => .pointer (some ⟨y.1, 0, none⟩)) (fun y => bkR y.1 y.2.1 y.2.2 (joinF [] xs).1) := by
  refine enterF Tryz.func6 rfl Tryz.ntmps6 rfl hw ?_
  refine WC.seq ?_
  refine WC.region ?_
  refine WL.y (Yl.assign rfl) rfl ?_ -- t2
  refine WL.nil ?_
  refine WC.seq ?_
  refine WC.region ?_
  refine WL.callC (xs := []) (cap := []) rfl rfl en25 (by repeat (first | exact TakeL.nil | (apply TakeL.cons; · repeat (first | exact Take1.head | apply Take1.tail)))) (fun w hw => newM_any w hw.left.here) rfl ?_ -- t4 hailer/merge.New
  rintro b -
  dsimp only [bkR, List.cons_append, List.nil_append]
  refine WL.y (Yl.assign rfl) rfl ?_ -- t3
  refine WL.nil ?_
  refine WC.seq ?_
  refine WC.region ?_
  refine WL.y (Yl.move rfl) rfl ?_ -- t5
  refine WL.y (Yl.move rfl) rfl ?_ -- t6
  refine WL.callC (xs := [.tmp 6]) (cap := []) rfl rfl en24 (by repeat (first | exact TakeL.nil | (apply TakeL.cons; · repeat (first | exact Take1.head | apply Take1.tail)))) (fun w hw => val_any v xs hG (by omega) w hw.left.here) rfl ?_ -- t7 slices.Values[[]hailer/api.Record,hailer/api.Record]
  rintro ⟨y1, own⟩ -
  dsimp only [List.cons_append, List.nil_append]
  refine WL.callC (xs := [.tmp 5, .tmp 7]) (cap := []) rfl rfl en23 (by repeat (first | exact TakeL.nil | (apply TakeL.cons; · repeat (first | exact Take1.head | apply Take1.tail)))) (fun w hw => join_any b none 0 [] 52 [.pointer (some ⟨y1, 0, none⟩)] own xs en52 Book.nil hG (by simpa using hl) w hw.left.here) rfl ?_ -- t8 (*hailer/merge.Book).Join
  rintro ⟨ao, ca⟩ -
  dsimp only [bkR, List.cons_append, List.nil_append]
  refine WL.nil ?_
  refine WC.seq ?_
  refine WC.region ?_
  refine WL.y (Yl.move rfl) rfl ?_ -- t9
  refine WL.y (Yl.assign rfl) rfl ?_ -- t2
  refine WL.nil ?_
  refine WC.ret ?_
  repeat (first | (with_reducible refine peelT ?_) | (with_reducible refine peelB ?_) | (with_reducible refine peelTX ?_) | (with_reducible refine peelBX ?_) | (with_reducible refine peelBN ?_) | (with_reducible refine peelBO rfl ?_))
  exact ret1 (.inr rfl) Tryz.results6 rfl fun w' h => ⟨(b, ao, ca), trivial, rfl, h.sub (by repeat (first | exact TakeL.nil | (apply TakeL.cons; · repeat (first | exact Take1.head | apply Take1.tail))))⟩
end Go.Proofs.YtmcdbjbkkejbbaaGreat
