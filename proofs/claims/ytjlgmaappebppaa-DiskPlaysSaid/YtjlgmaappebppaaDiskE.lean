/- Disks: written, spoilt: the walks. -/
import Derived.Test.YtjlgmaappebppaaDiskC
namespace Go.Proofs.Ytjlgmaappebppaa
open Go Go.RowKit

theorem write_nil (bv : Value) (torn : Int) (w : World) (hw : OK w (fpL []) [] w) : Fn Try.prog 7 [.pointer none, bv, .int .i64 torn] [] w (fun _ : Unit => True) (fun _ => .tuple #[.int .u64 0, .int .i64 1]) (fun _ => []) := by
  refine enterF Try.func7 rfl Try.ntmps7 rfl hw ?_
  refine WC.seq ?_
  refine WC.region ?_
  refine WL.to (To.box (cs := [.pointer none]) rfl rfl) rfl ?_ -- t3
  intro b3
  refine WL.y (Yl.assign rfl) rfl ?_ -- t6
  refine WL.y (Yl.assign rfl) rfl ?_ -- t7
  refine WL.nil ?_
  refine WC.seq ?_
  refine WC.block ?_
  refine WC.seq ?_
  refine WC.region ?_
  refine WL.y (Yl.load on27 rfl (by repeat (first | exact Take1.head | apply Take1.tail)) (by rfl)) rfl ?_ -- t16
  refine WL.y (Yl.nilEq un27 rfl rfl) rfl ?_ -- t17
  refine WL.y (Yl.assign rfl) rfl ?_ -- t15
  refine WL.nil ?_
  refine WC.condT rfl (by first | rfl | (simp; done) | (simp; omega)) ?_
  refine WC.seq ?_
  refine WC.region ?_
  refine WL.y (Yl.assign rfl) rfl ?_ -- t6
  refine WL.y (Yl.assign rfl) rfl ?_ -- t7
  refine WL.nil ?_
  refine WC.ret ?_
  repeat (first | (with_reducible refine peelT ?_) | (with_reducible refine peelB ?_) | (with_reducible refine peelTX ?_) | (with_reducible refine peelBX ?_) | (with_reducible refine peelBN ?_) | (with_reducible refine peelBO rfl ?_))
  exact ret2 (.inr rfl) Try.results7 rfl rfl fun w' h => ⟨(), trivial, rfl, h.sub (by repeat (first | exact TakeL.nil | (apply TakeL.cons; · repeat (first | exact Take1.head | apply Take1.tail))))⟩

theorem wr_flat {R was : List Int} {k : Nat} : ([R.take k, was.drop (min k was.length)] : List (List Int)).flatten = R.take k ++ was.drop k := by
  have : was.drop (min k was.length) = was.drop k := by
    rcases Nat.le_total k was.length with h | h
    · rw [Nat.min_eq_left h]
    · rw [Nat.min_eq_right h, List.drop_of_length_le (Nat.le_refl _), List.drop_of_length_le h]
  simp [this]
theorem two1 {w : World} {T : Pm} {v u : Value} {c d : List Int} (h : RdS w T v 1 c.length (ints .u8 c)) (h2 : RdS w T u 1 d.length (ints .u8 d)) : ∀ (i : Nat) (v' : Value) (c' : List Int), [v, u][i]? = some v' → [c, d][i]? = some c' → RdS w T v' 1 c'.length (ints .u8 c') := by
  intro i v' c' h3 h4
  match i with
  | 0 => cases h3; cases h4; exact h
  | 1 => cases h3; cases h4; exact h2
  | i + 2 => simp at h3

set_option maxRecDepth 100000 in
theorem write_any (b : Nat) (v0 v1 : Value) (x y bs : List Int) (bv : Value) (torn : Int) (hX : Bytes x) (hY : Bytes y) (hxl : x.length ≤ 90000) (hyl : y.length ≤ 90000) (hbl : bs.length ≤ 80000) (w : World) (hb : RdS w (fpL (dskR b v0 v1 x y)) bv 1 bs.length (ints .u8 bs)) (hw : OK w (fpL (dskR b v0 v1 x y)) (dskR b v0 v1 x y) w) :
    Fn Try.prog 7 [.pointer (some ⟨b, 0, none⟩), bv, .int .i64 torn] (dskR b v0 v1 x y) w (fun _ : (Option Addr × Nat) × (Option Addr × Nat) => True) (fun _ => .tuple #[.int .u64 (wrN x y bs torn), .int .i64 (wrE x y bs torn)])
      (fun z => dskR b (.slice z.1.1 (wrX x y bs torn).length z.1.2) (.slice z.2.1 (wrY x y bs torn).length z.2.2) (wrX x y bs torn) (wrY x y bs torn)) := by
  obtain ⟨a0, c0, rfl, hc0, hm0⟩ := (hw.get (r := rdR v0 1 x.length (ints .u8 x)) (.tail .head) : Rd _ _ _ _ _).form
  obtain ⟨a1, c1, rfl, hc1, hm1⟩ := (hw.get (r := rdR v1 1 y.length (ints .u8 y)) (.tail (.tail .head)) : Rd _ _ _ _ _).form
  obtain ⟨ab, cb, rfl, hcb, hmb⟩ := hb.rd.form
  have hN := nwN_rng hX hY
  have hrl : (recF (nwN x y + 1) bs).length = 22 + bs.length := recF_len _ _
  have eT : wrT x y bs torn = (decide (0 ≤ torn) && decide (torn < ((recF (nwN x y + 1) bs).length : Int))) := rfl
  have eW : wrW x y bs torn = if wrT x y bs torn then (recF (nwN x y + 1) bs).take torn.toNat ++ (if nwS x y = 0 then y else x).drop torn.toNat else recF (nwN x y + 1) bs := rfl
  refine enterF Try.func7 rfl Try.ntmps7 rfl hw ?_
  refine WC.seq ?_
  refine WC.region ?_
  refine WL.to (To.box (cs := [.pointer (some ⟨b, 0, none⟩)]) rfl rfl) rfl ?_ -- t3
  intro b3
  refine WL.y (Yl.assign rfl) rfl ?_ -- t6
  refine WL.y (Yl.assign rfl) rfl ?_ -- t7
  refine WL.nil ?_
  refine WC.seq ?_
  refine WC.block ?_
  refine WC.seq ?_
  refine WC.region ?_
  refine WL.y (Yl.load on27 rfl (by repeat (first | exact Take1.head | apply Take1.tail)) (by rfl)) rfl ?_ -- t16
  refine WL.y (Yl.nilEq un27 rfl rfl) rfl ?_ -- t17
  refine WL.y (Yl.assign rfl) rfl ?_ -- t15
  refine WL.nil ?_
  refine WC.condF rfl (by first | rfl | (simp; done) | (simp; omega)) ?_
  refine WC.seq ?_
  refine WC.region ?_
  refine WL.y (Yl.move rfl) rfl ?_ -- t19
  refine WL.y (Yl.len un22 rfl) rfl ?_ -- t20
  refine WL.y (Yl.gtr rfl rfl) rfl ?_ -- t21
  refine WL.y (Yl.assign rfl) rfl ?_ -- t18
  refine WL.nil ?_
  refine WC.condF rfl (by first | rfl | (simp; done) | (simp; omega)) ?_
  refine WC.skip ?_
  refine WC.seq ?_
  refine WC.region ?_
  refine WL.y (Yl.load on27 rfl (by repeat (first | exact Take1.head | apply Take1.tail)) (by rfl)) rfl ?_ -- t23
  refine WL.callC (xs := [.tmp 23]) (cap := []) rfl rfl en16 (by repeat (first | exact TakeL.nil | (apply TakeL.cons; · repeat (first | exact Take1.head | apply Take1.tail)))) (fun w hw => newest_any b (.slice a0 x.length c0) (.slice a1 y.length c1) x y hX hY hxl hyl w hw.left.here) rfl ?_ -- t24 (*hailer/disk.Disk).newest
  rintro ⟨⟩ -
  refine WL.y (Yl.move rfl) rfl ?_ -- t22
  refine WL.y (Yl.extract rfl rfl) rfl ?_ -- t25
  refine WL.say (t := 25) (v' := .int .i64 (nwS x y)) rfl (by rfl) ?_
  refine WL.y (Yl.extract rfl rfl) rfl ?_ -- t26
  refine WL.say (t := 26) (v' := .int .u64 (nwN x y)) rfl (by rfl) ?_
  refine WL.y (Yl.extract rfl rfl) rfl ?_ -- t27
  refine WL.y (Yl.assign rfl) rfl ?_ -- t8
  refine WL.y (Yl.assign rfl) rfl ?_ -- t9
  refine WL.y (Yl.assign rfl) rfl ?_ -- t10
  refine WL.nil ?_
  refine WC.seq ?_
  refine WC.seq ?_
  refine WC.region ?_
  refine WL.y (Yl.move rfl) rfl ?_ -- t28
  refine WL.y (Yl.eql rfl rfl) rfl ?_ -- t29
  refine WL.nil ?_
  refine WC.condD rfl (fun g29 => ?_) (fun g29 => ?_)
  · refine WC.seq ?_
    refine WC.region ?_
    refine WL.y (Yl.assign rfl) rfl ?_ -- t6
    refine WL.y (Yl.assign rfl) rfl ?_ -- t7
    refine WL.nil ?_
    refine WC.ret ?_
    repeat (first | (with_reducible refine peelT ?_) | (with_reducible refine peelB ?_) | (with_reducible refine peelTX ?_) | (with_reducible refine peelBX ?_) | (with_reducible refine peelBN ?_) | (with_reducible refine peelBO rfl ?_))
    have hf : wrFull x y := g29
    have e1 : wrX x y bs torn = x := by unfold wrX; rw [if_pos hf]
    have e2 : wrY x y bs torn = y := by unfold wrY; rw [if_pos hf]
    have e3 : wrN x y bs torn = 0 := by unfold wrN; rw [if_pos hf]
    have e4 : wrE x y bs torn = 7 := by unfold wrE; rw [if_pos hf]
    rw [e1, e2, e3, e4]
    exact ret2 (.inr rfl) Try.results7 rfl rfl fun w' h => ⟨((a0, c0), (a1, c1)), trivial, rfl, h.sub (by repeat (first | exact TakeL.nil | (apply TakeL.cons; · repeat (first | exact Take1.head | apply Take1.tail))))⟩
  · refine WC.skip ?_
    refine WC.seq ?_
    have hf : ¬ wrFull x y := g29
    refine WC.region ?_
    refine WL.y (Yl.makeFunc (xs := []) (ys := [.tmp 3]) rfl rfl) rfl ?_ -- t30
    refine WL.y (Yl.assign rfl) rfl ?_ -- t11
    refine WL.nil ?_
    refine WC.seq ?_
    refine WC.region ?_
    refine WL.y (Yl.assign rfl) rfl ?_ -- t12
    refine WL.nil ?_
    refine WC.seq ?_
    refine WC.seq ?_
    refine WC.region ?_
    refine WL.y (Yl.move rfl) rfl ?_ -- t31
    refine WL.y (Yl.eql rfl rfl) rfl ?_ -- t32
    refine WL.nil ?_
    refine WC.condD rfl (fun g32 => ?_) (fun g32 => ?_)
    · refine WC.region ?_
      refine WL.y (Yl.assign rfl) rfl ?_ -- t12
      refine WL.nil ?_
      refine WC.seq ?_
      refine WC.region ?_
      refine WL.y (Yl.move rfl) rfl ?_ -- t33
      refine WL.y (Yl.add rfl rfl (u64_in _ (by omega))) rfl ?_
      refine WL.y (Yl.move rfl) rfl ?_ -- t35
      refine WL.callC (xs := [.tmp 34, .tmp 35]) (cap := []) rfl rfl en18 (by repeat (first | exact TakeL.nil | (apply TakeL.cons; · repeat (first | exact Take1.head | apply Take1.tail)))) (fun w hw => record_any (nwN x y + 1) bs (.slice ab bs.length cb) (by omega) (by omega) w (hw.srcS (A := []) hb) hw.left.here) rfl ?_ -- t36 hailer/disk.record
      rintro ⟨aR, cR⟩ hcR
      dsimp only at hcR ⊢
      obtain ⟨R, hR⟩ : ∃ R, recF (nwN x y + 1) bs = R := ⟨_, rfl⟩
      rw [hR] at hrl eT eW hcR ⊢
      unfold dskR
      refine WL.view (fun w h => h.readOnly (v := .slice aR R.length cR) (by repeat (first | exact Take1.head | apply Take1.tail))) ?_
      refine WL.y (Yl.assign rfl) rfl ?_ -- t13
      refine WL.nil ?_
      refine WC.seq ?_
      refine WC.seq ?_
      refine WC.region ?_
      refine WL.y (Yl.move rfl) rfl ?_ -- t37
      refine WL.y (Yl.lss rfl rfl) rfl ?_ -- t38
      refine WL.y (Yl.move rfl) rfl ?_ -- t39
      refine WL.both (t := 39) rfl (fun g39 => ?_) (fun g39 => ?_)
      · refine WL.off rfl rfl rfl rfl ?_ -- t40
        refine WL.off rfl rfl rfl rfl ?_ -- t41
        refine WL.off rfl rfl rfl rfl ?_ -- t42
        refine WL.off rfl rfl rfl rfl ?_ -- t43
        refine WL.y (Yl.pickT rfl rfl) rfl ?_ -- t44
        refine WL.nil ?_
        refine WC.condT rfl (by first | rfl | (simp; done) | (simp; omega)) ?_
        refine WC.seq ?_
        refine WC.region ?_
        refine WL.y (Yl.move rfl) rfl ?_ -- t45
        refine WL.y (Yl.move rfl) rfl ?_ -- t46
        refine WL.y (Yl.move rfl) rfl ?_ -- t47
        refine WL.callC (f := .tmp 45) (xs := [.tmp 46, .tmp 47]) (cap := [.pointer (some ⟨b3, 0, none⟩)]) rfl rfl en17 (by repeat (first | exact TakeL.nil | (apply TakeL.cons; · repeat (first | exact Take1.head | apply Take1.tail)))) (fun w hw => put1_any b3 b (.slice a0 x.length c0) (.slice a1 y.length c1) aR R.length cR w hw.left.here) rfl ?_ -- t48
        rintro ⟨⟩ -
        refine WL.nil ?_
        refine WC.seq ?_
        refine WC.region ?_
        refine WL.y (Yl.move rfl) rfl ?_ -- t49
        refine WL.y (Yl.add rfl rfl (u64_in _ (by omega))) rfl ?_
        refine WL.y (Yl.assign rfl) rfl ?_ -- t6
        refine WL.y (Yl.assign rfl) rfl ?_ -- t7
        refine WL.nil ?_
        refine WC.ret ?_
        repeat (first | (with_reducible refine peelT ?_) | (with_reducible refine peelB ?_) | (with_reducible refine peelTX ?_) | (with_reducible refine peelBX ?_) | (with_reducible refine peelBN ?_) | (with_reducible refine peelBO rfl ?_))
        have hT : wrT x y bs torn = false := by rw [eT, decide_eq_false (p := 0 ≤ torn) (by have := of_decide_eq_true g39; omega)]; rfl
        rw [hT] at eW
        have e1 : wrX x y bs torn = x := by unfold wrX; rw [if_neg hf, if_pos g32]
        have e2 : wrY x y bs torn = R := by unfold wrY; rw [if_neg hf, if_pos g32, eW]; rfl
        have e3 : wrN x y bs torn = nwN x y + 1 := by unfold wrN; rw [if_neg hf, hT]; rfl
        have e4 : wrE x y bs torn = 0 := by unfold wrE; rw [if_neg hf, hT]; rfl
        rw [e1, e2, e3, e4]
        exact ret2 (.inr rfl) Try.results7 rfl rfl fun w' h => ⟨((a0, c0), (aR, cR)), trivial, rfl, h.sub (by repeat (first | exact TakeL.nil | (apply TakeL.cons; · repeat (first | exact Take1.head | apply Take1.tail))))⟩
      · refine WL.on rfl rfl ?_
        refine WL.y (Yl.move rfl) rfl ?_ -- t40
        refine WL.on rfl rfl ?_
        refine WL.y (Yl.move rfl) rfl ?_ -- t41
        refine WL.on rfl rfl ?_
        refine WL.y (Yl.len un22 rfl) rfl ?_ -- t42
        refine WL.on rfl rfl ?_
        refine WL.y (Yl.geq rfl rfl) rfl ?_ -- t43
        refine WL.y (Yl.pickF rfl rfl) rfl ?_ -- t44
        refine WL.nil ?_
        refine WC.condD rfl (fun g44 => ?_) (fun g44 => ?_)
        · refine WC.seq ?_
          refine WC.region ?_
          refine WL.y (Yl.move rfl) rfl ?_ -- t45
          refine WL.y (Yl.move rfl) rfl ?_ -- t46
          refine WL.y (Yl.move rfl) rfl ?_ -- t47
          refine WL.callC (f := .tmp 45) (xs := [.tmp 46, .tmp 47]) (cap := [.pointer (some ⟨b3, 0, none⟩)]) rfl rfl en17 (by repeat (first | exact TakeL.nil | (apply TakeL.cons; · repeat (first | exact Take1.head | apply Take1.tail)))) (fun w hw => put1_any b3 b (.slice a0 x.length c0) (.slice a1 y.length c1) aR R.length cR w hw.left.here) rfl ?_ -- t48
          rintro ⟨⟩ -
          refine WL.nil ?_
          refine WC.seq ?_
          refine WC.region ?_
          refine WL.y (Yl.move rfl) rfl ?_ -- t49
          refine WL.y (Yl.add rfl rfl (u64_in _ (by omega))) rfl ?_
          refine WL.y (Yl.assign rfl) rfl ?_ -- t6
          refine WL.y (Yl.assign rfl) rfl ?_ -- t7
          refine WL.nil ?_
          refine WC.ret ?_
          repeat (first | (with_reducible refine peelT ?_) | (with_reducible refine peelB ?_) | (with_reducible refine peelTX ?_) | (with_reducible refine peelBX ?_) | (with_reducible refine peelBN ?_) | (with_reducible refine peelBO rfl ?_))
          have hT : wrT x y bs torn = false := by rw [eT, decide_eq_false (p := torn < (R.length : Int)) (by omega)]; simp
          rw [hT] at eW
          have e1 : wrX x y bs torn = x := by unfold wrX; rw [if_neg hf, if_pos g32]
          have e2 : wrY x y bs torn = R := by unfold wrY; rw [if_neg hf, if_pos g32, eW]; rfl
          have e3 : wrN x y bs torn = nwN x y + 1 := by unfold wrN; rw [if_neg hf, hT]; rfl
          have e4 : wrE x y bs torn = 0 := by unfold wrE; rw [if_neg hf, hT]; rfl
          rw [e1, e2, e3, e4]
          exact ret2 (.inr rfl) Try.results7 rfl rfl fun w' h => ⟨((a0, c0), (aR, cR)), trivial, rfl, h.sub (by repeat (first | exact TakeL.nil | (apply TakeL.cons; · repeat (first | exact Take1.head | apply Take1.tail))))⟩
        · refine WC.skip ?_
          refine WC.seq ?_
          have hT : wrT x y bs torn = true := by rw [eT, decide_eq_true (p := 0 ≤ torn) (by have := of_decide_eq_false g39; omega), decide_eq_true (p := torn < (R.length : Int)) (by omega)]; rfl
          have ht0 : 0 ≤ torn := by have := of_decide_eq_false g39; omega
          have htR : torn < (R.length : Int) := by omega
          obtain ⟨k, rfl⟩ : ∃ k : Nat, torn = (k : Int) := ⟨torn.toNat, by omega⟩
          have hkR : k ≤ R.length := by omega
          rw [hT, Int.toNat_natCast] at eW
          refine WC.region ?_
          refine WL.y (Yl.load on27 rfl (by repeat (first | exact Take1.head | apply Take1.tail)) (by rfl)) rfl ?_ -- t51
          refine WL.y (Yl.move rfl) rfl ?_ -- t52
          refine WL.y (Yl.nilCheck rfl) rfl ?_ -- t53
          refine WL.y (Yl.field fo49_0 rfl) rfl ?_ -- t54
          refine WL.y (Yl.indexA (j := 1) un23 sz22 rfl rfl rfl (by omega)) rfl ?_
          refine WL.y (Yl.load on22 rfl (by repeat (first | exact Take1.head | apply Take1.tail)) (by rfl)) rfl ?_ -- t56
          refine WL.y (Yl.assign rfl) rfl ?_ -- t14
          refine WL.nil ?_
          refine WC.seq ?_
          refine WC.drawAny (Hs := [rdR (.slice aR R.length cR) 1 R.length (ints .u8 R), rdR (.slice a0 x.length c0) 1 x.length (ints .u8 x), rdR (.slice a1 y.length c1) 1 y.length (ints .u8 y)]) mixed (by kernel_rfl) ⟨_, (by repeat (first | exact TakeL.nil | (apply TakeL.cons; · repeat (first | exact Take1.head | apply Take1.tail))))⟩ ?_
          refine WD.take 0 rfl (by kernel_rfl) (by kernel_rfl) (by kernel_rfl) rfl rfl (Yl.move rfl) rfl ?_ -- t57
          refine WD.take 1 rfl (by kernel_rfl) (by kernel_rfl) (by kernel_rfl) rfl rfl (Yl.move rfl) rfl ?_ -- t58
          refine WD.take 2 rfl (by kernel_rfl) (by kernel_rfl) (by kernel_rfl) rfl rfl (Yl.move rfl) rfl ?_ -- t59
          refine WD.take 3 rfl (by kernel_rfl) (by kernel_rfl) (by kernel_rfl) rfl rfl (Yl.move rfl) rfl ?_ -- t60
          refine WD.take 4 rfl (by kernel_rfl) (by kernel_rfl) (by kernel_rfl) rfl rfl (Yl.slice (l := 0) (h := k) un22 sz5 rfl rfl ⟨_, rfl⟩ (by omega) (by omega)) rfl ?_
          refine WD.take 5 rfl (by kernel_rfl) (by kernel_rfl) (by kernel_rfl) rfl rfl (Yl.move rfl) rfl ?_ -- t62
          refine WD.take 6 rfl (by kernel_rfl) (by kernel_rfl) (by kernel_rfl) rfl rfl (Yl.move rfl) rfl ?_ -- t63
          refine WD.take 7 rfl (by kernel_rfl) (by kernel_rfl) (by kernel_rfl) rfl rfl (Yl.move rfl) rfl ?_ -- t64
          refine WD.take 8 rfl (by kernel_rfl) (by kernel_rfl) (by kernel_rfl) rfl rfl (Yl.len un22 rfl) rfl ?_ -- t65
          refine WD.take 9 rfl (by kernel_rfl) (by kernel_rfl) (by kernel_rfl) rfl rfl (Yl.min2 rfl rfl) rfl ?_ -- t66
          refine WD.say (t := 66) (v' := .int .i64 ((min k y.length : Nat) : Int)) rfl (by (refine congrArg _ ?_; split <;> omega)) ?_
          refine WD.take 10 rfl (by kernel_rfl) (by kernel_rfl) (by kernel_rfl) rfl rfl (Yl.slice (l := min k y.length) (h := y.length) un22 sz5 rfl ⟨_, rfl⟩ rfl (by omega) (by omega)) rfl ?_
          refine WD.one 11 (by kernel_rfl) ?_
          refine WO.to rfl rfl .no (To.buildSlice (vs := [subS (.slice aR R.length cR) 0 k cR 1, subS (.slice a1 y.length c1) (min k y.length) y.length c1 1]) un66 zs22 rfl rfl (by intro v hv; simp at hv; rcases hv with rfl | rfl <;> rfl) (by decide) (by decide)) rfl (fun _ => ⟨_, (by repeat (first | exact TakeL.nil | (apply TakeL.cons; · repeat (first | exact Take1.head | apply Take1.tail))))⟩) ?_ -- t68
          intro b68
          refine WD.one 12 (by kernel_rfl) ?_
          refine WO.callC (xs := [.tmp 68]) (cap := []) rfl .no rfl rfl en19 (by repeat (first | exact TakeL.nil | (apply TakeL.cons; · repeat (first | exact Take1.head | apply Take1.tail)))) (fun w hw => concat_any [R.take k, y.drop (min k y.length)] [subS (.slice aR R.length cR) 0 k cR 1, subS (.slice a1 y.length c1) (min k y.length) y.length c1 1] (.slice (some ⟨b68, 0, none⟩) 2 2) rfl (by simp; omega) (by simp) w (hw.src (A := []) (RdOf.blk (cs := [subS (.slice aR R.length cR) 0 k cR 1, subS (.slice a1 y.length c1) (min k y.length) y.length c1 1]) (Nat.le_refl _) (by unfold maxLen; omega) (by simp) rfl) (by repeat (first | exact Take1.head | apply Take1.tail))) (two1 (hw.src (A := []) (r := rdR (.slice aR R.length cR) 1 R.length (ints .u8 R)) (RdOf.cut RdOf.rd' 0 k (by omega) (by omega) (by simp)) (by repeat (first | exact Take1.head | apply Take1.tail))) (hw.src (A := []) (r := rdR (.slice a1 y.length c1) 1 y.length (ints .u8 y)) (RdOf.cut RdOf.rd' (min k y.length) y.length (by omega) (by omega) (by rw [List.take_of_length_le (by simp)])) (by repeat (first | exact Take1.head | apply Take1.tail)))) hw.left.here) rfl (fun _ => ⟨_, (by repeat (first | exact TakeL.nil | (apply TakeL.cons; · repeat (first | exact Take1.head | apply Take1.tail))))⟩) ?_ -- t69 slices.Concat[[]byte,byte]
          rintro ⟨aC, cC⟩ -
          rw [wr_flat]
          refine WD.one 13 (by kernel_rfl) ?_
          refine WO.callC (f := .tmp 57) (xs := [.tmp 58, .tmp 69]) (cap := [.pointer (some ⟨b3, 0, none⟩)]) rfl .no rfl rfl en17 (by repeat (first | exact TakeL.nil | (apply TakeL.cons; · repeat (first | exact Take1.head | apply Take1.tail)))) (fun w hw => put1_any b3 b (.slice a0 x.length c0) (.slice a1 y.length c1) aC (R.take k ++ y.drop k).length cC w hw.left.here) rfl (fun _ => ⟨_, (by repeat (first | exact TakeL.nil | (apply TakeL.cons; · repeat (first | exact Take1.head | apply Take1.tail))))⟩) ?_ -- t70
          rintro ⟨⟩ -
          refine WD.done (by kernel_rfl) ?_
          refine WC.seq ?_
          refine WC.region ?_
          refine WL.y (Yl.assign rfl) rfl ?_ -- t6
          refine WL.y (Yl.assign rfl) rfl ?_ -- t7
          refine WL.nil ?_
          refine WC.ret ?_
          repeat (first | (with_reducible refine peelT ?_) | (with_reducible refine peelB ?_) | (with_reducible refine peelTX ?_) | (with_reducible refine peelBX ?_) | (with_reducible refine peelBN ?_) | (with_reducible refine peelBO rfl ?_))
          rw [if_pos rfl, if_pos g32] at eW
          have e1 : wrX x y bs k = x := by unfold wrX; rw [if_neg hf, if_pos g32]
          have e2 : wrY x y bs k = R.take k ++ y.drop k := by unfold wrY; rw [if_neg hf, if_pos g32, eW]
          have e3 : wrN x y bs k = 0 := by unfold wrN; rw [if_neg hf, hT]; rfl
          have e4 : wrE x y bs k = 8 := by unfold wrE; rw [if_neg hf, hT]; rfl
          rw [e1, e2, e3, e4]
          exact ret2 (.inr rfl) Try.results7 rfl rfl fun w' h => ⟨((a0, c0), (aC, cC)), trivial, rfl, OK.sub (OK.readOnly (v := .slice aC (R.take k ++ y.drop k).length cC) h (by repeat (first | exact Take1.head | apply Take1.tail))) (by repeat (first | exact TakeL.nil | (apply TakeL.cons; · repeat (first | exact Take1.head | apply Take1.tail))))⟩
    · refine WC.skip ?_
      refine WC.seq ?_
      refine WC.region ?_
      refine WL.y (Yl.move rfl) rfl ?_ -- t33
      refine WL.y (Yl.add rfl rfl (u64_in _ (by omega))) rfl ?_
      refine WL.y (Yl.move rfl) rfl ?_ -- t35
      refine WL.callC (xs := [.tmp 34, .tmp 35]) (cap := []) rfl rfl en18 (by repeat (first | exact TakeL.nil | (apply TakeL.cons; · repeat (first | exact Take1.head | apply Take1.tail)))) (fun w hw => record_any (nwN x y + 1) bs (.slice ab bs.length cb) (by omega) (by omega) w (hw.srcS (A := []) hb) hw.left.here) rfl ?_ -- t36 hailer/disk.record
      rintro ⟨aR, cR⟩ hcR
      dsimp only at hcR ⊢
      obtain ⟨R, hR⟩ : ∃ R, recF (nwN x y + 1) bs = R := ⟨_, rfl⟩
      rw [hR] at hrl eT eW hcR ⊢
      unfold dskR
      refine WL.view (fun w h => h.readOnly (v := .slice aR R.length cR) (by repeat (first | exact Take1.head | apply Take1.tail))) ?_
      refine WL.y (Yl.assign rfl) rfl ?_ -- t13
      refine WL.nil ?_
      refine WC.seq ?_
      refine WC.seq ?_
      refine WC.region ?_
      refine WL.y (Yl.move rfl) rfl ?_ -- t37
      refine WL.y (Yl.lss rfl rfl) rfl ?_ -- t38
      refine WL.y (Yl.move rfl) rfl ?_ -- t39
      refine WL.both (t := 39) rfl (fun g39 => ?_) (fun g39 => ?_)
      · refine WL.off rfl rfl rfl rfl ?_ -- t40
        refine WL.off rfl rfl rfl rfl ?_ -- t41
        refine WL.off rfl rfl rfl rfl ?_ -- t42
        refine WL.off rfl rfl rfl rfl ?_ -- t43
        refine WL.y (Yl.pickT rfl rfl) rfl ?_ -- t44
        refine WL.nil ?_
        refine WC.condT rfl (by first | rfl | (simp; done) | (simp; omega)) ?_
        refine WC.seq ?_
        refine WC.region ?_
        refine WL.y (Yl.move rfl) rfl ?_ -- t45
        refine WL.y (Yl.move rfl) rfl ?_ -- t46
        refine WL.y (Yl.move rfl) rfl ?_ -- t47
        refine WL.callC (f := .tmp 45) (xs := [.tmp 46, .tmp 47]) (cap := [.pointer (some ⟨b3, 0, none⟩)]) rfl rfl en17 (by repeat (first | exact TakeL.nil | (apply TakeL.cons; · repeat (first | exact Take1.head | apply Take1.tail)))) (fun w hw => put0_any b3 b (.slice a0 x.length c0) (.slice a1 y.length c1) aR R.length cR w hw.left.here) rfl ?_ -- t48
        rintro ⟨⟩ -
        refine WL.nil ?_
        refine WC.seq ?_
        refine WC.region ?_
        refine WL.y (Yl.move rfl) rfl ?_ -- t49
        refine WL.y (Yl.add rfl rfl (u64_in _ (by omega))) rfl ?_
        refine WL.y (Yl.assign rfl) rfl ?_ -- t6
        refine WL.y (Yl.assign rfl) rfl ?_ -- t7
        refine WL.nil ?_
        refine WC.ret ?_
        repeat (first | (with_reducible refine peelT ?_) | (with_reducible refine peelB ?_) | (with_reducible refine peelTX ?_) | (with_reducible refine peelBX ?_) | (with_reducible refine peelBN ?_) | (with_reducible refine peelBO rfl ?_))
        have hT : wrT x y bs torn = false := by rw [eT, decide_eq_false (p := 0 ≤ torn) (by have := of_decide_eq_true g39; omega)]; rfl
        rw [hT] at eW
        have e1 : wrX x y bs torn = R := by unfold wrX; rw [if_neg hf, if_neg g32, eW]; rfl
        have e2 : wrY x y bs torn = y := by unfold wrY; rw [if_neg hf, if_neg g32]
        have e3 : wrN x y bs torn = nwN x y + 1 := by unfold wrN; rw [if_neg hf, hT]; rfl
        have e4 : wrE x y bs torn = 0 := by unfold wrE; rw [if_neg hf, hT]; rfl
        rw [e1, e2, e3, e4]
        exact ret2 (.inr rfl) Try.results7 rfl rfl fun w' h => ⟨((aR, cR), (a1, c1)), trivial, rfl, h.sub (by repeat (first | exact TakeL.nil | (apply TakeL.cons; · repeat (first | exact Take1.head | apply Take1.tail))))⟩
      · refine WL.on rfl rfl ?_
        refine WL.y (Yl.move rfl) rfl ?_ -- t40
        refine WL.on rfl rfl ?_
        refine WL.y (Yl.move rfl) rfl ?_ -- t41
        refine WL.on rfl rfl ?_
        refine WL.y (Yl.len un22 rfl) rfl ?_ -- t42
        refine WL.on rfl rfl ?_
        refine WL.y (Yl.geq rfl rfl) rfl ?_ -- t43
        refine WL.y (Yl.pickF rfl rfl) rfl ?_ -- t44
        refine WL.nil ?_
        refine WC.condD rfl (fun g44 => ?_) (fun g44 => ?_)
        · refine WC.seq ?_
          refine WC.region ?_
          refine WL.y (Yl.move rfl) rfl ?_ -- t45
          refine WL.y (Yl.move rfl) rfl ?_ -- t46
          refine WL.y (Yl.move rfl) rfl ?_ -- t47
          refine WL.callC (f := .tmp 45) (xs := [.tmp 46, .tmp 47]) (cap := [.pointer (some ⟨b3, 0, none⟩)]) rfl rfl en17 (by repeat (first | exact TakeL.nil | (apply TakeL.cons; · repeat (first | exact Take1.head | apply Take1.tail)))) (fun w hw => put0_any b3 b (.slice a0 x.length c0) (.slice a1 y.length c1) aR R.length cR w hw.left.here) rfl ?_ -- t48
          rintro ⟨⟩ -
          refine WL.nil ?_
          refine WC.seq ?_
          refine WC.region ?_
          refine WL.y (Yl.move rfl) rfl ?_ -- t49
          refine WL.y (Yl.add rfl rfl (u64_in _ (by omega))) rfl ?_
          refine WL.y (Yl.assign rfl) rfl ?_ -- t6
          refine WL.y (Yl.assign rfl) rfl ?_ -- t7
          refine WL.nil ?_
          refine WC.ret ?_
          repeat (first | (with_reducible refine peelT ?_) | (with_reducible refine peelB ?_) | (with_reducible refine peelTX ?_) | (with_reducible refine peelBX ?_) | (with_reducible refine peelBN ?_) | (with_reducible refine peelBO rfl ?_))
          have hT : wrT x y bs torn = false := by rw [eT, decide_eq_false (p := torn < (R.length : Int)) (by omega)]; simp
          rw [hT] at eW
          have e1 : wrX x y bs torn = R := by unfold wrX; rw [if_neg hf, if_neg g32, eW]; rfl
          have e2 : wrY x y bs torn = y := by unfold wrY; rw [if_neg hf, if_neg g32]
          have e3 : wrN x y bs torn = nwN x y + 1 := by unfold wrN; rw [if_neg hf, hT]; rfl
          have e4 : wrE x y bs torn = 0 := by unfold wrE; rw [if_neg hf, hT]; rfl
          rw [e1, e2, e3, e4]
          exact ret2 (.inr rfl) Try.results7 rfl rfl fun w' h => ⟨((aR, cR), (a1, c1)), trivial, rfl, h.sub (by repeat (first | exact TakeL.nil | (apply TakeL.cons; · repeat (first | exact Take1.head | apply Take1.tail))))⟩
        · refine WC.skip ?_
          refine WC.seq ?_
          have hT : wrT x y bs torn = true := by rw [eT, decide_eq_true (p := 0 ≤ torn) (by have := of_decide_eq_false g39; omega), decide_eq_true (p := torn < (R.length : Int)) (by omega)]; rfl
          have ht0 : 0 ≤ torn := by have := of_decide_eq_false g39; omega
          have htR : torn < (R.length : Int) := by omega
          obtain ⟨k, rfl⟩ : ∃ k : Nat, torn = (k : Int) := ⟨torn.toNat, by omega⟩
          have hkR : k ≤ R.length := by omega
          rw [hT, Int.toNat_natCast] at eW
          refine WC.region ?_
          refine WL.y (Yl.load on27 rfl (by repeat (first | exact Take1.head | apply Take1.tail)) (by rfl)) rfl ?_ -- t51
          refine WL.y (Yl.move rfl) rfl ?_ -- t52
          refine WL.y (Yl.nilCheck rfl) rfl ?_ -- t53
          refine WL.y (Yl.field fo49_0 rfl) rfl ?_ -- t54
          refine WL.y (Yl.indexA (j := 0) un23 sz22 rfl rfl rfl (by omega)) rfl ?_
          refine WL.y (Yl.load on22 rfl (by repeat (first | exact Take1.head | apply Take1.tail)) (by rfl)) rfl ?_ -- t56
          refine WL.y (Yl.assign rfl) rfl ?_ -- t14
          refine WL.nil ?_
          refine WC.seq ?_
          refine WC.drawAny (Hs := [rdR (.slice aR R.length cR) 1 R.length (ints .u8 R), rdR (.slice a0 x.length c0) 1 x.length (ints .u8 x), rdR (.slice a1 y.length c1) 1 y.length (ints .u8 y)]) mixed (by kernel_rfl) ⟨_, (by repeat (first | exact TakeL.nil | (apply TakeL.cons; · repeat (first | exact Take1.head | apply Take1.tail))))⟩ ?_
          refine WD.take 0 rfl (by kernel_rfl) (by kernel_rfl) (by kernel_rfl) rfl rfl (Yl.move rfl) rfl ?_ -- t57
          refine WD.take 1 rfl (by kernel_rfl) (by kernel_rfl) (by kernel_rfl) rfl rfl (Yl.move rfl) rfl ?_ -- t58
          refine WD.take 2 rfl (by kernel_rfl) (by kernel_rfl) (by kernel_rfl) rfl rfl (Yl.move rfl) rfl ?_ -- t59
          refine WD.take 3 rfl (by kernel_rfl) (by kernel_rfl) (by kernel_rfl) rfl rfl (Yl.move rfl) rfl ?_ -- t60
          refine WD.take 4 rfl (by kernel_rfl) (by kernel_rfl) (by kernel_rfl) rfl rfl (Yl.slice (l := 0) (h := k) un22 sz5 rfl rfl ⟨_, rfl⟩ (by omega) (by omega)) rfl ?_
          refine WD.take 5 rfl (by kernel_rfl) (by kernel_rfl) (by kernel_rfl) rfl rfl (Yl.move rfl) rfl ?_ -- t62
          refine WD.take 6 rfl (by kernel_rfl) (by kernel_rfl) (by kernel_rfl) rfl rfl (Yl.move rfl) rfl ?_ -- t63
          refine WD.take 7 rfl (by kernel_rfl) (by kernel_rfl) (by kernel_rfl) rfl rfl (Yl.move rfl) rfl ?_ -- t64
          refine WD.take 8 rfl (by kernel_rfl) (by kernel_rfl) (by kernel_rfl) rfl rfl (Yl.len un22 rfl) rfl ?_ -- t65
          refine WD.take 9 rfl (by kernel_rfl) (by kernel_rfl) (by kernel_rfl) rfl rfl (Yl.min2 rfl rfl) rfl ?_ -- t66
          refine WD.say (t := 66) (v' := .int .i64 ((min k x.length : Nat) : Int)) rfl (by (refine congrArg _ ?_; split <;> omega)) ?_
          refine WD.take 10 rfl (by kernel_rfl) (by kernel_rfl) (by kernel_rfl) rfl rfl (Yl.slice (l := min k x.length) (h := x.length) un22 sz5 rfl ⟨_, rfl⟩ rfl (by omega) (by omega)) rfl ?_
          refine WD.one 11 (by kernel_rfl) ?_
          refine WO.to rfl rfl .no (To.buildSlice (vs := [subS (.slice aR R.length cR) 0 k cR 1, subS (.slice a0 x.length c0) (min k x.length) x.length c0 1]) un66 zs22 rfl rfl (by intro v hv; simp at hv; rcases hv with rfl | rfl <;> rfl) (by decide) (by decide)) rfl (fun _ => ⟨_, (by repeat (first | exact TakeL.nil | (apply TakeL.cons; · repeat (first | exact Take1.head | apply Take1.tail))))⟩) ?_ -- t68
          intro b68
          refine WD.one 12 (by kernel_rfl) ?_
          refine WO.callC (xs := [.tmp 68]) (cap := []) rfl .no rfl rfl en19 (by repeat (first | exact TakeL.nil | (apply TakeL.cons; · repeat (first | exact Take1.head | apply Take1.tail)))) (fun w hw => concat_any [R.take k, x.drop (min k x.length)] [subS (.slice aR R.length cR) 0 k cR 1, subS (.slice a0 x.length c0) (min k x.length) x.length c0 1] (.slice (some ⟨b68, 0, none⟩) 2 2) rfl (by simp; omega) (by simp) w (hw.src (A := []) (RdOf.blk (cs := [subS (.slice aR R.length cR) 0 k cR 1, subS (.slice a0 x.length c0) (min k x.length) x.length c0 1]) (Nat.le_refl _) (by unfold maxLen; omega) (by simp) rfl) (by repeat (first | exact Take1.head | apply Take1.tail))) (two1 (hw.src (A := []) (r := rdR (.slice aR R.length cR) 1 R.length (ints .u8 R)) (RdOf.cut RdOf.rd' 0 k (by omega) (by omega) (by simp)) (by repeat (first | exact Take1.head | apply Take1.tail))) (hw.src (A := []) (r := rdR (.slice a0 x.length c0) 1 x.length (ints .u8 x)) (RdOf.cut RdOf.rd' (min k x.length) x.length (by omega) (by omega) (by rw [List.take_of_length_le (by simp)])) (by repeat (first | exact Take1.head | apply Take1.tail)))) hw.left.here) rfl (fun _ => ⟨_, (by repeat (first | exact TakeL.nil | (apply TakeL.cons; · repeat (first | exact Take1.head | apply Take1.tail))))⟩) ?_ -- t69 slices.Concat[[]byte,byte]
          rintro ⟨aC, cC⟩ -
          rw [wr_flat]
          refine WD.one 13 (by kernel_rfl) ?_
          refine WO.callC (f := .tmp 57) (xs := [.tmp 58, .tmp 69]) (cap := [.pointer (some ⟨b3, 0, none⟩)]) rfl .no rfl rfl en17 (by repeat (first | exact TakeL.nil | (apply TakeL.cons; · repeat (first | exact Take1.head | apply Take1.tail)))) (fun w hw => put0_any b3 b (.slice a0 x.length c0) (.slice a1 y.length c1) aC (R.take k ++ x.drop k).length cC w hw.left.here) rfl (fun _ => ⟨_, (by repeat (first | exact TakeL.nil | (apply TakeL.cons; · repeat (first | exact Take1.head | apply Take1.tail))))⟩) ?_ -- t70
          rintro ⟨⟩ -
          refine WD.done (by kernel_rfl) ?_
          refine WC.seq ?_
          refine WC.region ?_
          refine WL.y (Yl.assign rfl) rfl ?_ -- t6
          refine WL.y (Yl.assign rfl) rfl ?_ -- t7
          refine WL.nil ?_
          refine WC.ret ?_
          repeat (first | (with_reducible refine peelT ?_) | (with_reducible refine peelB ?_) | (with_reducible refine peelTX ?_) | (with_reducible refine peelBX ?_) | (with_reducible refine peelBN ?_) | (with_reducible refine peelBO rfl ?_))
          rw [if_pos rfl, if_neg g32] at eW
          have e1 : wrX x y bs k = R.take k ++ x.drop k := by unfold wrX; rw [if_neg hf, if_neg g32, eW]
          have e2 : wrY x y bs k = y := by unfold wrY; rw [if_neg hf, if_neg g32]
          have e3 : wrN x y bs k = 0 := by unfold wrN; rw [if_neg hf, hT]; rfl
          have e4 : wrE x y bs k = 8 := by unfold wrE; rw [if_neg hf, hT]; rfl
          rw [e1, e2, e3, e4]
          exact ret2 (.inr rfl) Try.results7 rfl rfl fun w' h => ⟨((aC, cC), (a1, c1)), trivial, rfl, OK.sub (OK.readOnly (v := .slice aC (R.take k ++ x.drop k).length cC) h (by repeat (first | exact Take1.head | apply Take1.tail))) (by repeat (first | exact TakeL.nil | (apply TakeL.cons; · repeat (first | exact Take1.head | apply Take1.tail))))⟩
end Go.Proofs.Ytjlgmaappebppaa

namespace Go.Proofs.Ytjlgmaappebppaa
open Go Go.RowKit

/-- What spoiling makes of the slots. -/
def spOk (x y : List Int) (slot at' : Int) : Bool := decide (0 ≤ slot ∧ slot ≤ 1) && decide (0 ≤ at' ∧ at' < ((if slot = 1 then y else x).length : Int))
def spB (x : List Int) (at' wv : Int) : List Int := x.set at'.toNat (bits .xor .u8 (x.getD at'.toNat 0) wv)
def spX (x y : List Int) (slot at' wv : Int) : List Int := if spOk x y slot at' ∧ slot = 0 then spB x at' wv else x
def spY (x y : List Int) (slot at' wv : Int) : List Int := if spOk x y slot at' ∧ slot = 1 then spB y at' wv else y
def spE (x y : List Int) (slot at' : Int) : Int := if spOk x y slot at' then 0 else 4
theorem sp_no {x y : List Int} {slot at' wv : Int} (h : spOk x y slot at' = false) : spX x y slot at' wv = x ∧ spY x y slot at' wv = y ∧ spE x y slot at' = 4 := by
  refine ⟨?_, ?_, ?_⟩
  · unfold spX; rw [if_neg (by rw [h]; simp)]
  · unfold spY; rw [if_neg (by rw [h]; simp)]
  · unfold spE; rw [h]; rfl
theorem spX_len (x y : List Int) (slot at' wv : Int) : (spX x y slot at' wv).length = x.length := by unfold spX; split <;> simp [spB]
theorem spY_len (x y : List Int) (slot at' wv : Int) : (spY x y slot at' wv).length = y.length := by unfold spY; split <;> simp [spB]

theorem spoil_nil (slot at' wv : Int) (w : World) (hw : OK w (fpL []) [] w) : Fn Try.prog 9 [.pointer none, .int .i64 slot, .int .i64 at', .int .u8 wv] [] w (fun _ : Unit => True) (fun _ => .int .i64 1) (fun _ => []) := by
  refine enterF Try.func9 rfl Try.ntmps9 rfl hw ?_
  refine WC.seq ?_
  refine WC.region ?_
  refine WL.y (Yl.assign rfl) rfl ?_ -- t8
  refine WL.nil ?_
  refine WC.seq ?_
  refine WC.block ?_
  refine WC.seq ?_
  refine WC.region ?_
  refine WL.y (Yl.move rfl) rfl ?_ -- t10
  refine WL.y (Yl.nilEq un27 rfl rfl) rfl ?_ -- t11
  refine WL.y (Yl.assign rfl) rfl ?_ -- t9
  refine WL.nil ?_
  refine WC.condT rfl (by first | rfl | (simp; done) | (simp; omega)) ?_
  refine WC.seq ?_
  refine WC.region ?_
  refine WL.y (Yl.assign rfl) rfl ?_ -- t8
  refine WL.nil ?_
  refine WC.ret ?_
  repeat (first | (with_reducible refine peelT ?_) | (with_reducible refine peelB ?_) | (with_reducible refine peelTX ?_) | (with_reducible refine peelBX ?_) | (with_reducible refine peelBN ?_) | (with_reducible refine peelBO rfl ?_))
  exact ret1 (.inr rfl) Try.results9 rfl fun w' h => ⟨(), trivial, rfl, h.sub (by repeat (first | exact TakeL.nil | (apply TakeL.cons; · repeat (first | exact Take1.head | apply Take1.tail))))⟩

set_option maxRecDepth 100000 in
theorem spoil_any (b : Nat) (v0 v1 : Value) (x y : List Int) (slot at' wv : Int) (hxl : x.length ≤ 90000) (hyl : y.length ≤ 90000) (w : World) (hw : OK w (fpL (dskR b v0 v1 x y)) (dskR b v0 v1 x y) w) :
    Fn Try.prog 9 [.pointer (some ⟨b, 0, none⟩), .int .i64 slot, .int .i64 at', .int .u8 wv] (dskR b v0 v1 x y) w (fun _ : (Option Addr × Nat) × (Option Addr × Nat) => True) (fun _ => .int .i64 (spE x y slot at'))
      (fun z => dskR b (.slice z.1.1 (spX x y slot at' wv).length z.1.2) (.slice z.2.1 (spY x y slot at' wv).length z.2.2) (spX x y slot at' wv) (spY x y slot at' wv)) := by
  obtain ⟨a0, c0, rfl, hc0, hm0⟩ := (hw.get (r := rdR v0 1 x.length (ints .u8 x)) (.tail .head) : Rd _ _ _ _ _).form
  obtain ⟨a1, c1, rfl, hc1, hm1⟩ := (hw.get (r := rdR v1 1 y.length (ints .u8 y)) (.tail (.tail .head)) : Rd _ _ _ _ _).form
  have hbad : ∀ {w'}, spOk x y slot at' = false → OK w (fpL (dskR b (.slice a0 x.length c0) (.slice a1 y.length c1) x y)) (dskR b (.slice a0 x.length c0) (.slice a1 y.length c1) x y) w' →
      ∃ z : (Option Addr × Nat) × (Option Addr × Nat), True ∧ Ending.returned (.int .i64 4) = Ending.returned (.int .i64 (spE x y slot at')) ∧ OK w (fpL (dskR b (.slice a0 x.length c0) (.slice a1 y.length c1) x y)) (dskR b (.slice z.1.1 (spX x y slot at' wv).length z.1.2) (.slice z.2.1 (spY x y slot at' wv).length z.2.2) (spX x y slot at' wv) (spY x y slot at' wv)) w' := by
    intro w' h h2
    obtain ⟨e1, e2, e3⟩ := sp_no (wv := wv) h
    refine ⟨((a0, c0), (a1, c1)), trivial, by rw [e3], ?_⟩
    rw [e1, e2]; exact h2
  refine enterF Try.func9 rfl Try.ntmps9 rfl hw ?_
  refine WC.seq ?_
  refine WC.region ?_
  refine WL.y (Yl.assign rfl) rfl ?_ -- t8
  refine WL.nil ?_
  refine WC.seq ?_
  refine WC.block ?_
  refine WC.seq ?_
  refine WC.region ?_
  refine WL.y (Yl.move rfl) rfl ?_ -- t10
  refine WL.y (Yl.nilEq un27 rfl rfl) rfl ?_ -- t11
  refine WL.y (Yl.assign rfl) rfl ?_ -- t9
  refine WL.nil ?_
  refine WC.condF rfl (by first | rfl | (simp; done) | (simp; omega)) ?_
  refine WC.seq ?_
  refine WC.region ?_
  refine WL.y (Yl.move rfl) rfl ?_ -- t13
  refine WL.y (Yl.lss rfl rfl) rfl ?_ -- t14
  refine WL.y (Yl.move rfl) rfl ?_ -- t15
  refine WL.both (t := 15) rfl (fun g15 => ?_) (fun g15 => ?_)
  · refine WL.off rfl rfl rfl rfl ?_ -- t16
    refine WL.off rfl rfl rfl rfl ?_ -- t17
    refine WL.y (Yl.pickT rfl rfl) rfl ?_ -- t18
    refine WL.y (Yl.move rfl) rfl ?_ -- t19
    refine WL.off rfl rfl rfl rfl ?_ -- t20
    refine WL.off rfl rfl rfl rfl ?_ -- t21
    refine WL.y (Yl.pickT rfl rfl) rfl ?_ -- t22
    refine WL.y (Yl.move rfl) rfl ?_ -- t23
    refine WL.off rfl rfl rfl rfl ?_ -- t24
    refine WL.off rfl rfl rfl rfl ?_ -- t25
    refine WL.off rfl rfl rfl rfl ?_ -- t26
    refine WL.off rfl rfl rfl rfl ?_ -- t27
    refine WL.off rfl rfl rfl rfl ?_ -- t28
    refine WL.off rfl rfl rfl rfl ?_ -- t29
    refine WL.off rfl rfl rfl rfl ?_ -- t30
    refine WL.off rfl rfl rfl rfl ?_ -- t31
    refine WL.off rfl rfl rfl rfl ?_ -- t32
    refine WL.y (Yl.pickT rfl rfl) rfl ?_ -- t33
    refine WL.y (Yl.assign rfl) rfl ?_ -- t12
    refine WL.nil ?_
    refine WC.condT rfl (by first | rfl | (simp; done) | (simp; omega)) ?_
    refine WC.seq ?_
    refine WC.region ?_
    refine WL.y (Yl.assign rfl) rfl ?_ -- t8
    refine WL.nil ?_
    refine WC.ret ?_
    repeat (first | (with_reducible refine peelT ?_) | (with_reducible refine peelB ?_) | (with_reducible refine peelTX ?_) | (with_reducible refine peelBX ?_) | (with_reducible refine peelBN ?_) | (with_reducible refine peelBO rfl ?_))
    exact ret1 (.inr rfl) Try.results9 rfl fun w' h => hbad (by have := of_decide_eq_true g15; unfold spOk; rw [decide_eq_false (p := 0 ≤ slot ∧ slot ≤ 1) (by omega)]; rfl) (h.sub (by repeat (first | exact TakeL.nil | (apply TakeL.cons; · repeat (first | exact Take1.head | apply Take1.tail)))))
  · refine WL.on rfl rfl ?_
    refine WL.y (Yl.move rfl) rfl ?_ -- t16
    refine WL.on rfl rfl ?_
    refine WL.y (Yl.geq rfl rfl) rfl ?_ -- t17
    refine WL.y (Yl.pickF rfl rfl) rfl ?_ -- t18
    refine WL.y (Yl.move rfl) rfl ?_ -- t19
    refine WL.both (t := 19) rfl (fun g19 => ?_) (fun g19 => ?_)
    · refine WL.off rfl rfl rfl rfl ?_ -- t20
      refine WL.off rfl rfl rfl rfl ?_ -- t21
      refine WL.y (Yl.pickT rfl rfl) rfl ?_ -- t22
      refine WL.y (Yl.move rfl) rfl ?_ -- t23
      refine WL.off rfl rfl rfl rfl ?_ -- t24
      refine WL.off rfl rfl rfl rfl ?_ -- t25
      refine WL.off rfl rfl rfl rfl ?_ -- t26
      refine WL.off rfl rfl rfl rfl ?_ -- t27
      refine WL.off rfl rfl rfl rfl ?_ -- t28
      refine WL.off rfl rfl rfl rfl ?_ -- t29
      refine WL.off rfl rfl rfl rfl ?_ -- t30
      refine WL.off rfl rfl rfl rfl ?_ -- t31
      refine WL.off rfl rfl rfl rfl ?_ -- t32
      refine WL.y (Yl.pickT rfl rfl) rfl ?_ -- t33
      refine WL.y (Yl.assign rfl) rfl ?_ -- t12
      refine WL.nil ?_
      refine WC.condT rfl (by first | rfl | (simp; done) | (simp; omega)) ?_
      refine WC.seq ?_
      refine WC.region ?_
      refine WL.y (Yl.assign rfl) rfl ?_ -- t8
      refine WL.nil ?_
      refine WC.ret ?_
      repeat (first | (with_reducible refine peelT ?_) | (with_reducible refine peelB ?_) | (with_reducible refine peelTX ?_) | (with_reducible refine peelBX ?_) | (with_reducible refine peelBN ?_) | (with_reducible refine peelBO rfl ?_))
      exact ret1 (.inr rfl) Try.results9 rfl fun w' h => hbad (by have := of_decide_eq_true g19; unfold spOk; rw [decide_eq_false (p := 0 ≤ slot ∧ slot ≤ 1) (by omega)]; rfl) (h.sub (by repeat (first | exact TakeL.nil | (apply TakeL.cons; · repeat (first | exact Take1.head | apply Take1.tail)))))
    · refine WL.on rfl rfl ?_
      refine WL.y (Yl.move rfl) rfl ?_ -- t20
      refine WL.on rfl rfl ?_
      refine WL.y (Yl.lss rfl rfl) rfl ?_ -- t21
      refine WL.y (Yl.pickF rfl rfl) rfl ?_ -- t22
      refine WL.y (Yl.move rfl) rfl ?_ -- t23
      refine WL.both (t := 23) rfl (fun g23 => ?_) (fun g23 => ?_)
      · refine WL.off rfl rfl rfl rfl ?_ -- t24
        refine WL.off rfl rfl rfl rfl ?_ -- t25
        refine WL.off rfl rfl rfl rfl ?_ -- t26
        refine WL.off rfl rfl rfl rfl ?_ -- t27
        refine WL.off rfl rfl rfl rfl ?_ -- t28
        refine WL.off rfl rfl rfl rfl ?_ -- t29
        refine WL.off rfl rfl rfl rfl ?_ -- t30
        refine WL.off rfl rfl rfl rfl ?_ -- t31
        refine WL.off rfl rfl rfl rfl ?_ -- t32
        refine WL.y (Yl.pickT rfl rfl) rfl ?_ -- t33
        refine WL.y (Yl.assign rfl) rfl ?_ -- t12
        refine WL.nil ?_
        refine WC.condT rfl (by first | rfl | (simp; done) | (simp; omega)) ?_
        refine WC.seq ?_
        refine WC.region ?_
        refine WL.y (Yl.assign rfl) rfl ?_ -- t8
        refine WL.nil ?_
        refine WC.ret ?_
        repeat (first | (with_reducible refine peelT ?_) | (with_reducible refine peelB ?_) | (with_reducible refine peelTX ?_) | (with_reducible refine peelBX ?_) | (with_reducible refine peelBN ?_) | (with_reducible refine peelBO rfl ?_))
        exact ret1 (.inr rfl) Try.results9 rfl fun w' h => hbad (by have := of_decide_eq_true g23; unfold spOk; rw [decide_eq_false (p := 0 ≤ at' ∧ _) (by omega)]; simp) (h.sub (by repeat (first | exact TakeL.nil | (apply TakeL.cons; · repeat (first | exact Take1.head | apply Take1.tail)))))
      · refine WL.on rfl rfl ?_
        refine WL.y (Yl.move rfl) rfl ?_ -- t24
        refine WL.on rfl rfl ?_
        have hs0 := of_decide_eq_false g15
        have hs1 := of_decide_eq_false g19
        have hat := of_decide_eq_false g23
        obtain ⟨j, rfl⟩ : ∃ j : Nat, slot = (j : Int) := ⟨slot.toNat, by omega⟩
        obtain ⟨t, rfl⟩ : ∃ t : Nat, at' = (t : Int) := ⟨at'.toNat, by omega⟩
        have hj2 : j < 2 := by omega
        obtain ⟨z, hz⟩ : ∃ z, (if j = 0 then x else y) = z := ⟨_, rfl⟩
        obtain ⟨az, cz, hv⟩ : ∃ az cz, (if j = 0 then Value.slice a0 x.length c0 else Value.slice a1 y.length c1) = .slice az z.length cz := by
          rcases (show j = 0 ∨ j = 1 by omega) with rfl | rfl
          · obtain rfl : x = z := hz
            exact ⟨_, _, rfl⟩
          · obtain rfl : y = z := hz
            exact ⟨_, _, rfl⟩
        have hvk : ([Value.slice a0 x.length c0, Value.slice a1 y.length c1] : List Value)[0 + 0 + j * 1]? = some (.slice az z.length cz) := by rcases (show j = 0 ∨ j = 1 by omega) with rfl | rfl <;> exact congrArg some hv
        have hZ : z.length ≤ 90000 := by rw [← hz]; split <;> assumption
        have eOk : spOk x y j t = decide (t < z.length) := by
          unfold spOk
          rw [decide_eq_true (p := 0 ≤ (j : Int) ∧ (j : Int) ≤ 1) (by omega), Bool.true_and]
          have e2 : (if (j : Int) = 1 then y else x) = z := by
            rw [← hz]
            rcases (show j = 0 ∨ j = 1 by omega) with rfl | rfl
            · rfl
            · rfl
          rw [e2]
          congr 1
          apply propext; omega
        unfold dskR
        refine WL.view (H' := [rdR (.slice az z.length cz) 1 z.length (ints .u8 z), blkR b 49 [.slice a0 x.length c0, .slice a1 y.length c1], rdR (.slice a0 x.length c0) 1 x.length (ints .u8 x), rdR (.slice a1 y.length c1) 1 y.length (ints .u8 y)]) (fun w h => by
          rcases (show j = 0 ∨ j = 1 by omega) with rfl | rfl
          · obtain rfl : x = z := hz
            cases hv
            exact h.dup (.tail .head) (fun _ h => h)
          · obtain rfl : y = z := hz
            cases hv
            exact h.dup (.tail (.tail .head)) (fun _ h => h)) ?_
        refine WL.y (Yl.move rfl) rfl ?_ -- t25
        refine WL.on rfl rfl ?_
        refine WL.y (Yl.move rfl) rfl ?_ -- t26
        refine WL.on rfl rfl ?_
        refine WL.y (Yl.nilCheck rfl) rfl ?_ -- t27
        refine WL.on rfl rfl ?_
        refine WL.y (Yl.field fo49_0 rfl) rfl ?_ -- t28
        refine WL.on rfl rfl ?_
        refine WL.y (Yl.indexA (j := j) un23 sz22 rfl rfl rfl (by omega)) rfl ?_
        refine WL.on rfl rfl ?_
        refine WL.y (Yl.load on22 rfl (by repeat (first | exact Take1.head | apply Take1.tail)) hvk) rfl ?_ -- t30
        refine WL.on rfl rfl ?_
        refine WL.y (Yl.len un22 rfl) rfl ?_ -- t31
        refine WL.on rfl rfl ?_
        refine WL.y (Yl.geq rfl rfl) rfl ?_ -- t32
        refine WL.y (Yl.pickF rfl rfl) rfl ?_ -- t33
        refine WL.y (Yl.assign rfl) rfl ?_ -- t12
        refine WL.nil ?_
        refine WC.condD rfl (fun g12 => ?_) (fun g12 => ?_)
        · refine WC.seq ?_
          refine WC.region ?_
          refine WL.y (Yl.assign rfl) rfl ?_ -- t8
          refine WL.nil ?_
          refine WC.ret ?_
          repeat (first | (with_reducible refine peelT ?_) | (with_reducible refine peelB ?_) | (with_reducible refine peelTX ?_) | (with_reducible refine peelBX ?_) | (with_reducible refine peelBN ?_) | (with_reducible refine peelBO rfl ?_))
          exact ret1 (.inr rfl) Try.results9 rfl fun w' h => hbad (by rw [eOk]; exact decide_eq_false (by omega)) (h.sub (by repeat (first | exact TakeL.nil | (apply TakeL.cons; · repeat (first | exact Take1.head | apply Take1.tail)))))
        · refine WC.skip ?_
          refine WC.seq ?_
          have htl : t < z.length := by omega
          rw [decide_eq_true htl] at eOk
          refine WC.drawAny (Hs := []) mixed (by kernel_rfl) ⟨_, (by repeat (first | exact TakeL.nil | (apply TakeL.cons; · repeat (first | exact Take1.head | apply Take1.tail))))⟩ ?_
          refine WD.take 0 rfl (by kernel_rfl) (by kernel_rfl) (by kernel_rfl) rfl rfl (Yl.move rfl) rfl ?_ -- t34
          refine WD.take 1 rfl (by kernel_rfl) (by kernel_rfl) (by kernel_rfl) rfl rfl (Yl.move rfl) rfl ?_ -- t35
          refine WD.take 2 rfl (by kernel_rfl) (by kernel_rfl) (by kernel_rfl) rfl rfl (Yl.move rfl) rfl ?_ -- t36
          refine WD.take 3 rfl (by kernel_rfl) (by kernel_rfl) (by kernel_rfl) rfl rfl (Yl.move rfl) rfl ?_ -- t37
          refine WD.take 4 rfl (by kernel_rfl) (by kernel_rfl) (by kernel_rfl) rfl rfl (Yl.nilCheck rfl) rfl ?_ -- t38
          refine WD.take 5 rfl (by kernel_rfl) (by kernel_rfl) (by kernel_rfl) rfl rfl (Yl.field fo49_0 rfl) rfl ?_ -- t39
          refine WD.take 6 rfl (by kernel_rfl) (by kernel_rfl) (by kernel_rfl) rfl rfl (Yl.indexA (j := j) un23 sz22 rfl rfl rfl (by omega)) rfl ?_
          refine WD.take 9 rfl (by kernel_rfl) (by kernel_rfl) (by kernel_rfl) rfl rfl (Yl.nilCheck rfl) rfl ?_ -- t43
          refine WD.take 10 rfl (by kernel_rfl) (by kernel_rfl) (by kernel_rfl) rfl rfl (Yl.field fo49_0 rfl) rfl ?_ -- t44
          refine WD.one 7 (by kernel_rfl) ?_
          refine WO.y rfl rfl .no (Yl.load on22 rfl (by repeat (first | exact Take1.head | apply Take1.tail)) hvk) rfl ?_ -- t41
          refine WD.one 8 (by kernel_rfl) ?_
          refine WO.callC (xs := [.tmp 41]) (cap := []) rfl .no rfl rfl en15 (by repeat (first | exact TakeL.nil | (apply TakeL.cons; · repeat (first | exact Take1.head | apply Take1.tail)))) (fun w hw => clone_any z (.slice az z.length cz) (by omega) w (hw.src (A := []) (r := rdR (.slice az z.length cz) 1 z.length (ints .u8 z)) RdOf.rd' (by repeat (first | exact Take1.head | apply Take1.tail))) hw.left.here) rfl (fun _ => ⟨_, (by repeat (first | exact TakeL.nil | (apply TakeL.cons; · repeat (first | exact Take1.head | apply Take1.tail))))⟩) ?_ -- t42 bytes.Clone
          rintro ⟨a42, c42⟩ -
          refine WD.take 11 rfl (by kernel_rfl) (by kernel_rfl) (by kernel_rfl) rfl rfl (Yl.indexA (j := j) un23 sz22 rfl rfl rfl (by omega)) rfl ?_
          refine WD.one 12 (by kernel_rfl) ?_
          refine WO.sto rfl rfl .no (Sto.one (cs' := ([Value.slice a0 x.length c0, Value.slice a1 y.length c1] : List Value).set j (.slice a42 z.length c42)) sz22 rfl rfl (by repeat (first | exact Take1.head | apply Take1.tail)) rfl (fitLt (by simp; omega)) (by simp)) ⟨_, (by repeat (first | exact TakeL.nil | (apply TakeL.cons; · repeat (first | exact Take1.head | apply Take1.tail))))⟩ ?_
          refine WD.done (by kernel_rfl) ?_
          refine WC.seq ?_
          refine WC.region ?_
          refine WL.y (Yl.move rfl) rfl ?_ -- t46
          refine WL.y (Yl.move rfl) rfl ?_ -- t47
          refine WL.y (Yl.nilCheck rfl) rfl ?_ -- t48
          refine WL.y (Yl.field fo49_0 rfl) rfl ?_ -- t49
          refine WL.y (Yl.indexA (j := j) un23 sz22 rfl rfl rfl (by omega)) rfl ?_
          refine WL.y (Yl.load on22 rfl (by repeat (first | exact Take1.head | apply Take1.tail)) (show _ = some (Value.slice a42 z.length c42) by rcases (show j = 0 ∨ j = 1 by omega) with rfl | rfl <;> rfl)) rfl ?_ -- t51
          refine WL.y (Yl.move rfl) rfl ?_ -- t52
          refine WL.y (Yl.index (j := t) un22 sz5 rfl rfl (Reads.of (r := ownR (.slice a42 z.length c42) 5 1 z.length (ints .u8 z)) RdOf.own (by repeat (first | exact Take1.head | apply Take1.tail))) rfl (by omega)) rfl ?_
          refine WL.y (Yl.loadE (u := .int .u8 (z.getD t 0)) on5 rfl (Reads.of (r := ownR (.slice a42 z.length c42) 5 1 z.length (ints .u8 z)) RdOf.own (by repeat (first | exact Take1.head | apply Take1.tail))) (ints_get _ _ _ htl)) rfl ?_
          refine WL.y (Yl.move rfl) rfl ?_ -- t55
          refine WL.y (Yl.xor rfl rfl) rfl ?_ -- t56
          refine WL.y (Yl.index (j := t) un22 sz5 rfl rfl (Reads.of (r := ownR (.slice a42 z.length c42) 5 1 z.length (ints .u8 z)) RdOf.own (by repeat (first | exact Take1.head | apply Take1.tail))) rfl (by omega)) rfl ?_
          refine WL.sto (Sto.elem (cs' := ints .u8 (spB z t wv)) sz5 rfl rfl (by repeat (first | exact Take1.head | apply Take1.tail)) rfl htl ints_set) (fun _ h => nomatch h) ?_
          refine WL.nil ?_
          refine WC.seq ?_
          refine WC.region ?_
          refine WL.y (Yl.assign rfl) rfl ?_ -- t8
          refine WL.nil ?_
          refine WC.ret ?_
          repeat (first | (with_reducible refine peelT ?_) | (with_reducible refine peelB ?_) | (with_reducible refine peelTX ?_) | (with_reducible refine peelBX ?_) | (with_reducible refine peelBN ?_) | (with_reducible refine peelBO rfl ?_))
          have eB : (spB z t wv).length = z.length := by simp [spB]
          rcases (show j = 0 ∨ j = 1 by omega) with rfl | rfl
          · obtain rfl : x = z := hz
            have e1 : spX x y (0 : Nat) t wv = spB x t wv := by unfold spX; rw [if_pos ⟨eOk, rfl⟩]
            have e2 : spY x y (0 : Nat) t wv = y := by unfold spY; rw [if_neg (by simp)]
            have e3 : spE x y (0 : Nat) t = 0 := by unfold spE; rw [eOk]; rfl
            rw [e1, e2, e3, eB]
            exact ret1 (.inr rfl) Try.results9 rfl fun w' h => ⟨((a42, c42), (a1, c1)), trivial, rfl, OK.sub (OK.readOnly (v := .slice a42 x.length c42) h (by repeat (first | exact Take1.head | apply Take1.tail))) (by rw [← eB]; exact (by repeat (first | exact TakeL.nil | (apply TakeL.cons; · repeat (first | exact Take1.head | apply Take1.tail)))))⟩
          · obtain rfl : y = z := hz
            have e1 : spX x y (1 : Nat) t wv = x := by unfold spX; rw [if_neg (by simp)]
            have e2 : spY x y (1 : Nat) t wv = spB y t wv := by unfold spY; rw [if_pos ⟨eOk, rfl⟩]
            have e3 : spE x y (1 : Nat) t = 0 := by unfold spE; rw [eOk]; rfl
            rw [e1, e2, e3, eB]
            exact ret1 (.inr rfl) Try.results9 rfl fun w' h => ⟨((a0, c0), (a42, c42)), trivial, rfl, OK.sub (OK.readOnly (v := .slice a42 y.length c42) h (by repeat (first | exact Take1.head | apply Take1.tail))) (by rw [← eB]; exact (by repeat (first | exact TakeL.nil | (apply TakeL.cons; · repeat (first | exact Take1.head | apply Take1.tail)))))⟩
end Go.Proofs.Ytjlgmaappebppaa
