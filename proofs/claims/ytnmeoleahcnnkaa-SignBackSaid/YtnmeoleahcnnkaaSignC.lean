/- Signals: the reference's taking. -/
import Derived.Test.YtnmeoleahcnnkaaSignB
namespace Go.Proofs.Ytnmeoleahcnnkaa
open Go Go.RowKit

/-- What the bytes tell, by their kind. -/
def shp (bs : List Int) : Option Sg :=
  if bs.length < 17 then none
  else if (bs.getD 0 0) = 1 ∧ bs.length = 52 then some (Sg.mk (bs.getD 0 0) ((bs.drop 1).take 16) (bs.getD 17 0) (bs.getD 18 0) (bs.getD 19 0) ((bs.drop 20).take 32) 0 none 0 [] 0)
  else if (bs.getD 0 0) = 2 ∧ bs.length = 49 then some (Sg.mk (bs.getD 0 0) ((bs.drop 1).take 16) 0 0 0 ((bs.drop 17).take 32) 0 none 0 [] 0)
  else if (bs.getD 0 0) = 3 ∧ 23 ≤ bs.length ∧ val ((bs.drop 21).take 2) = (bs.length : Int) - 23 then some (Sg.mk (bs.getD 0 0) ((bs.drop 1).take 16) 0 0 0 zero32 (val ((bs.drop 17).take 4)) none 0 (bs.drop 23) 0)
  else if ((bs.getD 0 0) = 4 ∨ (bs.getD 0 0) = 6) ∧ bs.length = 17 then some (Sg.mk (bs.getD 0 0) ((bs.drop 1).take 16) 0 0 0 zero32 0 none 0 [] 0)
  else if (bs.getD 0 0) = 5 ∧ bs.length = 18 then some (Sg.mk (bs.getD 0 0) ((bs.drop 1).take 16) 0 0 0 zero32 0 none 0 [] (bs.getD 17 0))
  else none
/-- The signal of any bytes, and whether they are one's. -/
def sigT (bs : List Int) : Sg × Bool := match shp bs with
  | some t => if mayS t then (t, true) else (Sg.zero, false)
  | none => (Sg.zero, false)
theorem sigT_none {bs : List Int} (h : shp bs = none) : sigT bs = (Sg.zero, false) := by unfold sigT; rw [h]
theorem sigT_bad {bs : List Int} {t : Sg} (h : shp bs = some t) (m : mayS t = false) : sigT bs = (Sg.zero, false) := by unfold sigT; rw [h]; simp [m]
theorem sigT_ok {bs : List Int} {t : Sg} (h : shp bs = some t) (m : mayS t = true) : sigT bs = (t, true) := by unfold sigT; rw [h]; simp [m]
theorem get8 {bs : List Int} (h : Bytes bs) (i : Nat) : 0 ≤ bs.getD i 0 ∧ bs.getD i 0 < 256 := by
  by_cases k : i < bs.length
  · exact h.getD k
  · have e : bs.getD i 0 = 0 := by simp [List.getD, List.getElem?_eq_none (Nat.le_of_not_lt k)]
    rw [e]; decide
theorem pow4 {n : Nat} (h : n ≤ 4) : (256 : Int) ^ n ≤ 4294967296 := by
  have : n = 0 ∨ n = 1 ∨ n = 2 ∨ n = 3 ∨ n = 4 := by omega
  rcases this with rfl | rfl | rfl | rfl | rfl <;> decide
theorem val4 {bs : List Int} (h : Bytes bs) (i : Nat) : 0 ≤ val ((bs.drop i).take 4) ∧ val ((bs.drop i).take 4) < 4294967296 := by
  have := val_range ((h.drop i).take 4)
  have h2 := pow4 (n := ((bs.drop i).take 4).length) (by simp; omega)
  omega

theorem rstake_any (bs : List Int) (v : Value) (hB : Bytes bs) (hsz : bs.length ≤ 100000) (w : World) (hx : RdS w (fpL []) v 1 bs.length (ints .u8 bs)) (hw : OK w (fpL []) [] w) :
    Fn Try.prog 13 [v] [] w (fun _ : Option Addr × Nat => True) (fun y => .tuple #[.agg ({ (sigT bs).1 with da := y.1, dc := y.2 } : Sg).cells.toArray, .bool (sigT bs).2]) (fun y => [ownR (.slice y.1 (sigT bs).1.data.length y.2) 5 1 (sigT bs).1.data.length (ints .u8 (sigT bs).1.data)]) := by
  obtain ⟨al, cl, rfl, hcl, hml⟩ := hx.rd.form
  have z : 0 ≤ (0 : Int) ∧ (0 : Int) < 256 := by decide
  have z4 : 0 ≤ (0 : Int) ∧ (0 : Int) < 4294967296 := by decide
  have zk := zero32_ok
  have zd : Bytes [] := fun _ h => by cases h
  have hIb : Bytes ((bs.drop 1).take 16) := (hB.drop 1).take 16
  refine enterF Try.func13 rfl Try.ntmps13 rfl hw ?_
  refine WC.seq ?_
  refine WC.region ?_
  refine WL.to (To.alloc (cs := Sg.zero.cells) zr34 rfl) rfl ?_ -- t2
  intro b2
  refine WL.y (Yl.assign rfl) rfl ?_ -- t3
  refine WL.nil ?_
  refine WC.seq ?_
  refine WC.region ?_
  refine WL.y (Yl.build rfl (cs := Sg.zero.cells) (fun _ => by kernel_rfl)) rfl ?_ -- t7
  refine WL.to (To.alloc (cs := Sg.zero.cells) zr34 rfl) rfl ?_ -- t4
  intro b4
  refine WL.sto (Sto.agg sz34 rfl rfl (by repeat (first | exact Take1.head | apply Take1.tail)) (Sg.ones _) rfl (by rfl) (Sg.all rfl Sg.zero.cells)) (fun _ h => nomatch h) ?_ -- st 1
  refine WL.nil ?_
  refine WC.seq ?_
  refine WC.seq ?_
  refine WC.region ?_
  refine WL.y (Yl.move rfl) rfl ?_ -- t8
  refine WL.y (Yl.len un22 rfl) rfl ?_ -- t9
  refine WL.y (Yl.lss rfl rfl) rfl ?_ -- t10
  refine WL.nil ?_
  refine WC.condD rfl (fun g10 => ?_) (fun g10 => ?_)
  · refine WC.seq ?_
    refine WC.region ?_
    refine WL.y (Yl.loadN ag34 rfl (by repeat (first | exact Take1.head | apply Take1.tail)) (by rfl) (Sg.call zero_sg)) rfl ?_ -- t11
    refine WL.sto (Sto.agg sz34 rfl rfl (by repeat (first | exact Take1.head | apply Take1.tail)) (Sg.ones _) rfl (by rfl) (Sg.all rfl Sg.zero.cells)) (fun _ h => nomatch h) ?_ -- st 2
    refine WL.y (Yl.assign rfl) rfl ?_ -- t3
    refine WL.nil ?_
    refine WC.ret ?_
    repeat (first | (with_reducible refine peelT ?_) | (with_reducible refine peelB ?_) | (with_reducible refine peelTX ?_) | (with_reducible refine peelBX ?_) | (with_reducible refine peelBN ?_) | (with_reducible refine peelBO rfl ?_))
    have e := sigT_none (bs := bs) (by unfold shp; rw [if_pos (by omega)])
    exact retC2 (.inr rfl) Try.results13 ag34 rfl rfl (by repeat (first | exact Take1.head | apply Take1.tail)) rfl fun w' hh => ⟨(none, 0), trivial, by rw [e]; rfl, by rw [e]; exact (hh.addNil 5 1).sub (by repeat (first | exact TakeL.nil | (apply TakeL.cons; · repeat (first | exact Take1.head | apply Take1.tail))))⟩
  · refine WC.skip ?_
    refine WC.midE (α := Nat) (fun b5 => [(5, .pointer (some ⟨b5, 0, none⟩))]) (fun b5 => [blkR b5 34 (Sg.mk (bs.getD 0 0) ((bs.drop 1).take 16) 0 0 0 zero32 0 none 0 [] 0).cells, blkR b4 34 Sg.zero.cells, blkR b2 34 Sg.zero.cells]) (fun _ => True) ?_ ?_
    · refine WC.drawAny (Hs := []) mixed (by kernel_rfl) ⟨_, (by repeat (first | exact TakeL.nil | (apply TakeL.cons; · repeat (first | exact Take1.head | apply Take1.tail))))⟩ ?_
      refine WD.take 0 rfl (by kernel_rfl) (by kernel_rfl) (by kernel_rfl) rfl rfl (Yl.move rfl) rfl ?_ -- t12
      refine WD.take 1 rfl (by kernel_rfl) (by kernel_rfl) (by kernel_rfl) rfl rfl (Yl.index (j := 0) un22 sz5 rfl rfl (Reads.s hx) rfl (by omega)) rfl ?_ -- t13
      refine WD.take 2 rfl (by kernel_rfl) (by kernel_rfl) (by kernel_rfl) rfl rfl (Yl.loadE on5 rfl (Reads.s hx) (ints_get .u8 bs 0 (by omega))) rfl ?_ -- t14
      refine WD.take 3 rfl (by kernel_rfl) (by kernel_rfl) (by kernel_rfl) rfl rfl (Yl.move rfl) rfl ?_ -- t15
      refine WD.take 4 rfl (by kernel_rfl) (by kernel_rfl) (by kernel_rfl) rfl rfl (Yl.slice (l := 1) (h := 17) un22 sz5 rfl ⟨_, rfl⟩ ⟨_, rfl⟩ (by omega) (by omega)) rfl ?_ -- t16
      refine WD.two 5 7 (by kernel_rfl) ?_ ?_
      · refine WO.callC (xs := [.tmp 16]) (cap := []) rfl .no rfl rfl en27 (by repeat (first | exact TakeL.nil | (apply TakeL.cons; · repeat (first | exact Take1.head | apply Take1.tail)))) (fun w hw => ofId_any ((bs.drop 1).take 16) (subS (.slice al bs.length cl) 1 17 cl 1) (by simp; omega) w (hw.srcS (hx.sub8 (l := 1) (h := 17) (by omega))) hw.left.here) rfl (fun _ => ⟨_, (by repeat (first | exact TakeL.nil | (apply TakeL.cons; · repeat (first | exact Take1.head | apply Take1.tail))))⟩) ?_ -- t17 hailer/hailerref09.OfId
        rintro ⟨⟩ -
        refine WD.say (t := 17) (v' := .agg (ints .u8 ((bs.drop 1).take 16)).toArray) rfl (by rw [List.take_take, Nat.min_self]) ?_
        have hIl : (((bs.drop 1).take 16)).length = 16 := by simp; omega
        refine WD.take 6 rfl (by kernel_rfl) (by kernel_rfl) (by kernel_rfl) rfl rfl (Yl.build rfl (cs := (Sg.mk (bs.getD 0 0) ((bs.drop 1).take 16) 0 0 0 zero32 0 none 0 [] 0).cells) (build_sg hIl _)) rfl ?_ -- t18
        refine WD.one 7 (by kernel_rfl) ?_
        refine WO.to rfl rfl .no (To.alloc (cs := Sg.zero.cells) zr34 rfl) rfl (fun _ => ⟨_, (by repeat (first | exact TakeL.nil | (apply TakeL.cons; · repeat (first | exact Take1.head | apply Take1.tail))))⟩) ?_ -- t5
        intro b5
        refine WD.one 8 (by kernel_rfl) ?_
        refine WO.sto rfl rfl .no (Sto.agg sz34 rfl rfl (by repeat (first | exact Take1.head | apply Take1.tail)) (Sg.ones _) (Sg.len2 hIl rfl) (by rfl) (Sg.all rfl (Sg.mk (bs.getD 0 0) ((bs.drop 1).take 16) 0 0 0 zero32 0 none 0 [] 0).cells)) ⟨_, (by repeat (first | exact TakeL.nil | (apply TakeL.cons; · repeat (first | exact Take1.head | apply Take1.tail))))⟩ ?_ -- st 3
        refine WD.done (by kernel_rfl) ?_
        exact ⟨rfl, b5, trivial, (by repeat (first | exact Sub.nil | refine Sub.cons rfl ?_)), (by repeat (first | exact Sub.nil | refine Sub.cons rfl ?_)), _, (by repeat (first | exact TakeL.nil | (apply TakeL.cons; · repeat (first | exact Take1.head | apply Take1.tail))))⟩
      · refine WO.to rfl rfl .no (To.alloc (cs := Sg.zero.cells) zr34 rfl) rfl (fun _ => ⟨_, (by repeat (first | exact TakeL.nil | (apply TakeL.cons; · repeat (first | exact Take1.head | apply Take1.tail))))⟩) ?_ -- t5
        intro b5
        refine WD.one 5 (by kernel_rfl) ?_
        refine WO.callC (xs := [.tmp 16]) (cap := []) rfl .no rfl rfl en27 (by repeat (first | exact TakeL.nil | (apply TakeL.cons; · repeat (first | exact Take1.head | apply Take1.tail)))) (fun w hw => ofId_any ((bs.drop 1).take 16) (subS (.slice al bs.length cl) 1 17 cl 1) (by simp; omega) w (hw.srcS (hx.sub8 (l := 1) (h := 17) (by omega))) hw.left.here) rfl (fun _ => ⟨_, (by repeat (first | exact TakeL.nil | (apply TakeL.cons; · repeat (first | exact Take1.head | apply Take1.tail))))⟩) ?_ -- t17 hailer/hailerref09.OfId
        rintro ⟨⟩ -
        refine WD.say (t := 17) (v' := .agg (ints .u8 ((bs.drop 1).take 16)).toArray) rfl (by rw [List.take_take, Nat.min_self]) ?_
        have hIl : (((bs.drop 1).take 16)).length = 16 := by simp; omega
        refine WD.take 6 rfl (by kernel_rfl) (by kernel_rfl) (by kernel_rfl) rfl rfl (Yl.build rfl (cs := (Sg.mk (bs.getD 0 0) ((bs.drop 1).take 16) 0 0 0 zero32 0 none 0 [] 0).cells) (build_sg hIl _)) rfl ?_ -- t18
        refine WD.one 8 (by kernel_rfl) ?_
        refine WO.sto rfl rfl .no (Sto.agg sz34 rfl rfl (by repeat (first | exact Take1.head | apply Take1.tail)) (Sg.ones _) (Sg.len2 hIl rfl) (by rfl) (Sg.all rfl (Sg.mk (bs.getD 0 0) ((bs.drop 1).take 16) 0 0 0 zero32 0 none 0 [] 0).cells)) ⟨_, (by repeat (first | exact TakeL.nil | (apply TakeL.cons; · repeat (first | exact Take1.head | apply Take1.tail))))⟩ ?_ -- st 3
        refine WD.done (by kernel_rfl) ?_
        exact ⟨rfl, b5, trivial, (by repeat (first | exact Sub.nil | refine Sub.cons rfl ?_)), (by repeat (first | exact Sub.nil | refine Sub.cons rfl ?_)), _, (by repeat (first | exact TakeL.nil | (apply TakeL.cons; · repeat (first | exact Take1.head | apply Take1.tail))))⟩
    · intro b5 _
      have hl17 : 17 ≤ bs.length := by omega
      have hIl : (((bs.drop 1).take 16)).length = 16 := by simp; omega
      have k0 : 0 ≤ (bs.getD 0 0) ∧ (bs.getD 0 0) < 256 := get8 hB 0
      refine WC.seq ?_
      refine WC.region ?_
      refine WL.y (Yl.move rfl) rfl ?_ -- t19
      refine WL.y (Yl.len un22 rfl) rfl ?_ -- t20
      refine WL.y (Yl.sub rfl rfl (IntWalk.i64_in _ (by omega))) rfl ?_ -- t21
      refine WL.y (Yl.assign rfl) rfl ?_ -- t6
      refine WL.nil ?_
      refine WC.seq ?_
      refine WC.block ?_
      refine WC.midK [(23, .bool (decide ((bs.getD 0 0) = 1 ∧ bs.length = 52)))] [blkR b5 34 (Sg.mk (bs.getD 0 0) ((bs.drop 1).take 16) 0 0 0 zero32 0 none 0 [] 0).cells, blkR b4 34 Sg.zero.cells, blkR b2 34 Sg.zero.cells] ?_ ?_
      · refine WC.region ?_
        refine WL.y (Yl.field fo34_0 rfl) rfl ?_ -- t24
        refine WL.y (Yl.load on5 rfl (by repeat (first | exact Take1.head | apply Take1.tail)) Sg.c0) rfl ?_ -- t25
        refine WL.y (Yl.eql rfl rfl) rfl ?_ -- t26
        refine WL.y (Yl.move rfl) rfl ?_ -- t27
        refine WL.both (t := 27) rfl (fun g27 => ?_) (fun g27 => ?_)
        · refine WL.on rfl rfl ?_
          refine WL.y (Yl.move rfl) rfl ?_ -- t28
          refine WL.on rfl rfl ?_
          refine WL.y (Yl.eql rfl rfl) rfl ?_ -- t29
          refine WL.y (Yl.pickT rfl rfl) rfl ?_ -- t30
          refine WL.y (Yl.assign rfl) rfl ?_ -- t23
          refine WL.say (t := 23) (v' := .bool (decide ((bs.getD 0 0) = 1 ∧ bs.length = 52))) rfl (by (refine congrArg Value.bool ?_; rw [Bool.eq_iff_iff]; simp [-List.getD_eq_getElem?_getD, *]; try omega)) ?_
          refine WL.nil ?_
          exact ⟨rfl, (by repeat (first | exact Sub.nil | refine Sub.cons rfl ?_)), (by repeat (first | exact Sub.nil | refine Sub.cons rfl ?_)), _, (by repeat (first | exact TakeL.nil | (apply TakeL.cons; · repeat (first | exact Take1.head | apply Take1.tail))))⟩
        · refine WL.off rfl rfl rfl rfl ?_ -- t28
          refine WL.off rfl rfl rfl rfl ?_ -- t29
          refine WL.y (Yl.pickF rfl rfl) rfl ?_ -- t30
          refine WL.y (Yl.assign rfl) rfl ?_ -- t23
          refine WL.say (t := 23) (v' := .bool (decide ((bs.getD 0 0) = 1 ∧ bs.length = 52))) rfl (by (refine congrArg Value.bool ?_; rw [Bool.eq_iff_iff]; simp [-List.getD_eq_getElem?_getD, *]; try omega)) ?_
          refine WL.nil ?_
          exact ⟨rfl, (by repeat (first | exact Sub.nil | refine Sub.cons rfl ?_)), (by repeat (first | exact Sub.nil | refine Sub.cons rfl ?_)), _, (by repeat (first | exact TakeL.nil | (apply TakeL.cons; · repeat (first | exact Take1.head | apply Take1.tail))))⟩
      · refine WC.condD rfl (fun g23 => ?_) (fun g23 => ?_)
        · refine WC.seq ?_
          refine WC.drawTail 8 mixed (by kernel_rfl) ?_
          refine WH.y (Yl.move rfl) rfl ?_ -- t31
          refine WH.y (Yl.index (j := 17) un22 sz5 rfl rfl (Reads.s hx) rfl (by omega)) rfl ?_ -- t32
          refine WH.y (Yl.loadE on5 rfl (Reads.s hx) (ints_get .u8 bs 17 (by omega))) rfl ?_ -- t33
          refine WH.y (Yl.move rfl) rfl ?_ -- t34
          refine WH.y (Yl.index (j := 18) un22 sz5 rfl rfl (Reads.s hx) rfl (by omega)) rfl ?_ -- t35
          refine WH.y (Yl.loadE on5 rfl (Reads.s hx) (ints_get .u8 bs 18 (by omega))) rfl ?_ -- t36
          refine WH.y (Yl.build rfl (cs := [.int .u8 (bs.getD 17 0), .int .u8 (bs.getD 18 0)]) (fun _ => by kernel_rfl)) rfl ?_ -- t37
          refine WH.y (Yl.field fo34_2 rfl) rfl ?_ -- t38
          refine WH.nil ?_
          refine WP.sto (Sto.agg sz29 rfl rfl (by repeat (first | exact Take1.head | apply Take1.tail)) (by intro v hv; simp at hv; rcases hv with rfl | rfl <;> rfl) rfl (fitLe (by rw [Sg.len2 hIl rfl]; omega)) (Sg.pdev (s := (Sg.mk (bs.getD 0 0) ((bs.drop 1).take 16) 0 0 0 zero32 0 none 0 [] 0)) hIl (bs.getD 17 0) (bs.getD 18 0))) (fun _ h => nomatch h) ?_ -- st 4
          refine WP.nil ?_
          refine WC.seq ?_
          refine WC.region ?_
          refine WL.y (Yl.move rfl) rfl ?_ -- t39
          refine WL.y (Yl.index (j := 19) un22 sz5 rfl rfl (Reads.s hx) rfl (by omega)) rfl ?_ -- t40
          refine WL.y (Yl.loadE on5 rfl (Reads.s hx) (ints_get .u8 bs 19 (by omega))) rfl ?_ -- t41
          refine WL.y (Yl.field fo34_3 rfl) rfl ?_ -- t42
          refine WL.sto (Sto.one sz5 rfl rfl (by repeat (first | exact Take1.head | apply Take1.tail)) rfl (fitLt (by rw [Sg.len2 hIl rfl]; omega)) (Sg.s19 (s := (Sg.mk (bs.getD 0 0) ((bs.drop 1).take 16) (bs.getD 17 0) (bs.getD 18 0) 0 zero32 0 none 0 [] 0)) hIl (bs.getD 19 0))) (fun _ h => nomatch h) ?_
          refine WL.nil ?_
          refine WC.region ?_
          refine WL.y (Yl.move rfl) rfl ?_ -- t43
          refine WL.y (Yl.slice (l := 20) un22 sz5 rfl ⟨_, rfl⟩ rfl (by omega) (by omega)) rfl ?_ -- t44
          refine WL.callC (xs := [.tmp 44]) (cap := []) rfl rfl en28 (by repeat (first | exact TakeL.nil | (apply TakeL.cons; · repeat (first | exact Take1.head | apply Take1.tail)))) (fun w hw => ofKey_any ((bs.drop 20).take (bs.length - 20)) (subS (.slice al bs.length cl) 20 bs.length cl 1) (by simp; omega) w (hw.srcS (hx.sub8 (l := 20) (h := bs.length) (by omega))) hw.left.here) rfl ?_ -- t45 hailer/hailerref09.OfKey
          rintro ⟨⟩ -
          refine WL.say (t := 45) (v' := .agg (ints .u8 ((bs.drop 20).take 32)).toArray) rfl (by rw [List.take_take, show min 32 (bs.length - 20) = 32 by omega]) ?_
          refine WL.y (Yl.field fo34_4 rfl) rfl ?_ -- t46
          refine WL.sto (Sto.agg sz31 rfl rfl (by repeat (first | exact Take1.head | apply Take1.tail)) (ints_one _ _) (by simp [ints_length]; omega) (fitLe (by rw [Sg.len2 hIl rfl]; omega)) (Sg.pkey (s := (Sg.mk (bs.getD 0 0) ((bs.drop 1).take 16) (bs.getD 17 0) (bs.getD 18 0) (bs.getD 19 0) zero32 0 none 0 [] 0)) hIl rfl ((bs.drop 20).take 32))) (fun _ h => nomatch h) ?_ -- st 6
          refine WL.nil ?_
          refine WC.seq ?_
          refine WC.seq ?_
          refine WC.region ?_
          have ht : ((Sg.mk (bs.getD 0 0) ((bs.drop 1).take 16) (bs.getD 17 0) (bs.getD 18 0) (bs.getD 19 0) ((bs.drop 20).take 32) 0 none 0 [] 0)).ok := ⟨k0, hIl, hIb, get8 hB 17, get8 hB 18, get8 hB 19, by simp; omega, (hB.drop 20).take 32, z4, zd, z⟩
          have e0 : shp bs = some (Sg.mk (bs.getD 0 0) ((bs.drop 1).take 16) (bs.getD 17 0) (bs.getD 18 0) (bs.getD 19 0) ((bs.drop 20).take 32) 0 none 0 [] 0) := by unfold shp; rw [if_neg (by omega), if_pos g23]
          refine WL.y (Yl.loadN ag34 rfl (by repeat (first | exact Take1.head | apply Take1.tail)) (fitLe (by rw [Sg.len ht]; omega)) (Sg.call ht)) rfl ?_ -- t111
          refine WL.callC (xs := [.tmp 111]) (cap := []) rfl rfl en10 (by repeat (first | exact TakeL.nil | (apply TakeL.cons; · repeat (first | exact Take1.head | apply Take1.tail)))) (fun w hw => rsmay_any _ ht w RdS.nil8 hw.left.here) rfl ?_ -- t112 hailer/hailerref09.May
          rintro ⟨⟩ -
          refine WL.y (Yl.not rfl) rfl ?_ -- t113
          refine WL.nil ?_
          refine WC.cond rfl (fun g113 => ?_) (fun g113 => ?_)
          · refine WC.seq ?_
            refine WC.region ?_
            refine WL.y (Yl.loadN ag34 rfl (by repeat (first | exact Take1.head | apply Take1.tail)) (by rfl) (Sg.call zero_sg)) rfl ?_ -- t114
            refine WL.sto (Sto.agg sz34 rfl rfl (by repeat (first | exact Take1.head | apply Take1.tail)) (Sg.ones _) rfl (by rfl) (Sg.all rfl Sg.zero.cells)) (fun _ h => nomatch h) ?_ -- st 12
            refine WL.y (Yl.assign rfl) rfl ?_ -- t3
            refine WL.nil ?_
            refine WC.ret ?_
            repeat (first | (with_reducible refine peelT ?_) | (with_reducible refine peelB ?_) | (with_reducible refine peelTX ?_) | (with_reducible refine peelBX ?_) | (with_reducible refine peelBN ?_) | (with_reducible refine peelBO rfl ?_))
            have e := sigT_bad e0 (notT g113)
            exact retC2 (.inr rfl) Try.results13 ag34 rfl rfl (by repeat (first | exact Take1.head | apply Take1.tail)) rfl fun w' hh => ⟨(none, 0), trivial, by rw [e]; rfl, by rw [e]; exact (hh.addNil 5 1).sub (by repeat (first | exact TakeL.nil | (apply TakeL.cons; · repeat (first | exact Take1.head | apply Take1.tail))))⟩
          · refine WC.skip ?_
            refine WC.seq ?_
            refine WC.region ?_
            refine WL.y (Yl.loadN ag34 rfl (by repeat (first | exact Take1.head | apply Take1.tail)) (fitLe (by rw [Sg.len ht]; omega)) (Sg.call ht)) rfl ?_ -- t115
            refine WL.sto (Sto.agg sz34 rfl rfl (by repeat (first | exact Take1.head | apply Take1.tail)) (Sg.ones _) (Sg.len ht) (by rfl) (Sg.all rfl _)) (fun _ h => nomatch h) ?_ -- st 13
            refine WL.y (Yl.assign rfl) rfl ?_ -- t3
            refine WL.nil ?_
            refine WC.ret ?_
            repeat (first | (with_reducible refine peelT ?_) | (with_reducible refine peelB ?_) | (with_reducible refine peelTX ?_) | (with_reducible refine peelBX ?_) | (with_reducible refine peelBN ?_) | (with_reducible refine peelBO rfl ?_))
            have e := sigT_ok e0 (notF g113)
            exact retC2 (.inr rfl) Try.results13 ag34 rfl rfl (by repeat (first | exact Take1.head | apply Take1.tail)) (Sg.len ht) fun w' hh => ⟨(none, 0), trivial, by rw [e], by rw [e]; exact (hh.addNil 5 1).sub (by repeat (first | exact TakeL.nil | (apply TakeL.cons; · repeat (first | exact Take1.head | apply Take1.tail))))⟩
        · refine WC.midK [(47, .bool (decide ((bs.getD 0 0) = 2 ∧ bs.length = 49)))] [blkR b5 34 (Sg.mk (bs.getD 0 0) ((bs.drop 1).take 16) 0 0 0 zero32 0 none 0 [] 0).cells, blkR b4 34 Sg.zero.cells, blkR b2 34 Sg.zero.cells] ?_ ?_
          · refine WC.region ?_
            refine WL.y (Yl.field fo34_0 rfl) rfl ?_ -- t48
            refine WL.y (Yl.load on5 rfl (by repeat (first | exact Take1.head | apply Take1.tail)) Sg.c0) rfl ?_ -- t49
            refine WL.y (Yl.eql rfl rfl) rfl ?_ -- t50
            refine WL.y (Yl.move rfl) rfl ?_ -- t51
            refine WL.both (t := 51) rfl (fun g51 => ?_) (fun g51 => ?_)
            · refine WL.on rfl rfl ?_
              refine WL.y (Yl.move rfl) rfl ?_ -- t52
              refine WL.on rfl rfl ?_
              refine WL.y (Yl.eql rfl rfl) rfl ?_ -- t53
              refine WL.y (Yl.pickT rfl rfl) rfl ?_ -- t54
              refine WL.y (Yl.assign rfl) rfl ?_ -- t47
              refine WL.say (t := 47) (v' := .bool (decide ((bs.getD 0 0) = 2 ∧ bs.length = 49))) rfl (by (refine congrArg Value.bool ?_; rw [Bool.eq_iff_iff]; simp [-List.getD_eq_getElem?_getD, *]; try omega)) ?_
              refine WL.nil ?_
              exact ⟨rfl, (by repeat (first | exact Sub.nil | refine Sub.cons rfl ?_)), (by repeat (first | exact Sub.nil | refine Sub.cons rfl ?_)), _, (by repeat (first | exact TakeL.nil | (apply TakeL.cons; · repeat (first | exact Take1.head | apply Take1.tail))))⟩
            · refine WL.off rfl rfl rfl rfl ?_ -- t52
              refine WL.off rfl rfl rfl rfl ?_ -- t53
              refine WL.y (Yl.pickF rfl rfl) rfl ?_ -- t54
              refine WL.y (Yl.assign rfl) rfl ?_ -- t47
              refine WL.say (t := 47) (v' := .bool (decide ((bs.getD 0 0) = 2 ∧ bs.length = 49))) rfl (by (refine congrArg Value.bool ?_; rw [Bool.eq_iff_iff]; simp [-List.getD_eq_getElem?_getD, *]; try omega)) ?_
              refine WL.nil ?_
              exact ⟨rfl, (by repeat (first | exact Sub.nil | refine Sub.cons rfl ?_)), (by repeat (first | exact Sub.nil | refine Sub.cons rfl ?_)), _, (by repeat (first | exact TakeL.nil | (apply TakeL.cons; · repeat (first | exact Take1.head | apply Take1.tail))))⟩
          · refine WC.condD rfl (fun g47 => ?_) (fun g47 => ?_)
            · refine WC.region ?_
              refine WL.y (Yl.move rfl) rfl ?_ -- t55
              refine WL.y (Yl.slice (l := 17) un22 sz5 rfl ⟨_, rfl⟩ rfl (by omega) (by omega)) rfl ?_ -- t56
              refine WL.callC (xs := [.tmp 56]) (cap := []) rfl rfl en28 (by repeat (first | exact TakeL.nil | (apply TakeL.cons; · repeat (first | exact Take1.head | apply Take1.tail)))) (fun w hw => ofKey_any ((bs.drop 17).take (bs.length - 17)) (subS (.slice al bs.length cl) 17 bs.length cl 1) (by simp; omega) w (hw.srcS (hx.sub8 (l := 17) (h := bs.length) (by omega))) hw.left.here) rfl ?_ -- t57 hailer/hailerref09.OfKey
              rintro ⟨⟩ -
              refine WL.say (t := 57) (v' := .agg (ints .u8 ((bs.drop 17).take 32)).toArray) rfl (by rw [List.take_take, show min 32 (bs.length - 17) = 32 by omega]) ?_
              refine WL.y (Yl.field fo34_4 rfl) rfl ?_ -- t58
              refine WL.sto (Sto.agg sz31 rfl rfl (by repeat (first | exact Take1.head | apply Take1.tail)) (ints_one _ _) (by simp [ints_length]; omega) (fitLe (by rw [Sg.len2 hIl rfl]; omega)) (Sg.pkey (s := (Sg.mk (bs.getD 0 0) ((bs.drop 1).take 16) 0 0 0 zero32 0 none 0 [] 0)) hIl rfl ((bs.drop 17).take 32))) (fun _ h => nomatch h) ?_ -- st 7
              refine WL.nil ?_
              refine WC.seq ?_
              refine WC.seq ?_
              refine WC.region ?_
              have ht : ((Sg.mk (bs.getD 0 0) ((bs.drop 1).take 16) 0 0 0 ((bs.drop 17).take 32) 0 none 0 [] 0)).ok := ⟨k0, hIl, hIb, z, z, z, by simp; omega, (hB.drop 17).take 32, z4, zd, z⟩
              have e0 : shp bs = some (Sg.mk (bs.getD 0 0) ((bs.drop 1).take 16) 0 0 0 ((bs.drop 17).take 32) 0 none 0 [] 0) := by unfold shp; rw [if_neg (by omega), if_neg g23, if_pos g47]
              refine WL.y (Yl.loadN ag34 rfl (by repeat (first | exact Take1.head | apply Take1.tail)) (fitLe (by rw [Sg.len ht]; omega)) (Sg.call ht)) rfl ?_ -- t111
              refine WL.callC (xs := [.tmp 111]) (cap := []) rfl rfl en10 (by repeat (first | exact TakeL.nil | (apply TakeL.cons; · repeat (first | exact Take1.head | apply Take1.tail)))) (fun w hw => rsmay_any _ ht w RdS.nil8 hw.left.here) rfl ?_ -- t112 hailer/hailerref09.May
              rintro ⟨⟩ -
              refine WL.y (Yl.not rfl) rfl ?_ -- t113
              refine WL.nil ?_
              refine WC.cond rfl (fun g113 => ?_) (fun g113 => ?_)
              · refine WC.seq ?_
                refine WC.region ?_
                refine WL.y (Yl.loadN ag34 rfl (by repeat (first | exact Take1.head | apply Take1.tail)) (by rfl) (Sg.call zero_sg)) rfl ?_ -- t114
                refine WL.sto (Sto.agg sz34 rfl rfl (by repeat (first | exact Take1.head | apply Take1.tail)) (Sg.ones _) rfl (by rfl) (Sg.all rfl Sg.zero.cells)) (fun _ h => nomatch h) ?_ -- st 12
                refine WL.y (Yl.assign rfl) rfl ?_ -- t3
                refine WL.nil ?_
                refine WC.ret ?_
                repeat (first | (with_reducible refine peelT ?_) | (with_reducible refine peelB ?_) | (with_reducible refine peelTX ?_) | (with_reducible refine peelBX ?_) | (with_reducible refine peelBN ?_) | (with_reducible refine peelBO rfl ?_))
                have e := sigT_bad e0 (notT g113)
                exact retC2 (.inr rfl) Try.results13 ag34 rfl rfl (by repeat (first | exact Take1.head | apply Take1.tail)) rfl fun w' hh => ⟨(none, 0), trivial, by rw [e]; rfl, by rw [e]; exact (hh.addNil 5 1).sub (by repeat (first | exact TakeL.nil | (apply TakeL.cons; · repeat (first | exact Take1.head | apply Take1.tail))))⟩
              · refine WC.skip ?_
                refine WC.seq ?_
                refine WC.region ?_
                refine WL.y (Yl.loadN ag34 rfl (by repeat (first | exact Take1.head | apply Take1.tail)) (fitLe (by rw [Sg.len ht]; omega)) (Sg.call ht)) rfl ?_ -- t115
                refine WL.sto (Sto.agg sz34 rfl rfl (by repeat (first | exact Take1.head | apply Take1.tail)) (Sg.ones _) (Sg.len ht) (by rfl) (Sg.all rfl _)) (fun _ h => nomatch h) ?_ -- st 13
                refine WL.y (Yl.assign rfl) rfl ?_ -- t3
                refine WL.nil ?_
                refine WC.ret ?_
                repeat (first | (with_reducible refine peelT ?_) | (with_reducible refine peelB ?_) | (with_reducible refine peelTX ?_) | (with_reducible refine peelBX ?_) | (with_reducible refine peelBN ?_) | (with_reducible refine peelBO rfl ?_))
                have e := sigT_ok e0 (notF g113)
                exact retC2 (.inr rfl) Try.results13 ag34 rfl rfl (by repeat (first | exact Take1.head | apply Take1.tail)) (Sg.len ht) fun w' hh => ⟨(none, 0), trivial, by rw [e], by rw [e]; exact (hh.addNil 5 1).sub (by repeat (first | exact TakeL.nil | (apply TakeL.cons; · repeat (first | exact Take1.head | apply Take1.tail))))⟩
            · refine WC.midK [(59, .bool (decide ((bs.getD 0 0) = 3 ∧ 23 ≤ bs.length ∧ val ((bs.drop 21).take 2) = (bs.length : Int) - 23)))] [blkR b5 34 (Sg.mk (bs.getD 0 0) ((bs.drop 1).take 16) 0 0 0 zero32 0 none 0 [] 0).cells, blkR b4 34 Sg.zero.cells, blkR b2 34 Sg.zero.cells] ?_ ?_
              · refine WC.region ?_
                refine WL.y (Yl.field fo34_0 rfl) rfl ?_ -- t60
                refine WL.y (Yl.load on5 rfl (by repeat (first | exact Take1.head | apply Take1.tail)) Sg.c0) rfl ?_ -- t61
                refine WL.y (Yl.eql rfl rfl) rfl ?_ -- t62
                refine WL.y (Yl.move rfl) rfl ?_ -- t63
                refine WL.both (t := 63) rfl (fun g63 => ?_) (fun g63 => ?_)
                · refine WL.on rfl rfl ?_
                  refine WL.y (Yl.move rfl) rfl ?_ -- t64
                  refine WL.on rfl rfl ?_
                  refine WL.y (Yl.geq rfl rfl) rfl ?_ -- t65
                  refine WL.y (Yl.pickT rfl rfl) rfl ?_ -- t66
                  refine WL.y (Yl.move rfl) rfl ?_ -- t67
                  refine WL.both (t := 67) rfl (fun g67 => ?_) (fun g67 => ?_)
                  · refine WL.on rfl rfl ?_
                    have h67 := of_decide_eq_true g67
                    refine WL.y (Yl.move rfl) rfl ?_ -- t68
                    refine WL.on rfl rfl ?_
                    refine WL.y (Yl.slice (l := 21) (h := 23) un22 sz5 rfl ⟨_, rfl⟩ ⟨_, rfl⟩ (by omega) (by omega)) rfl ?_ -- t69
                    refine WL.on rfl rfl ?_
                    refine WL.callC (xs := [.tmp 69]) (cap := []) rfl rfl en29 (by repeat (first | exact TakeL.nil | (apply TakeL.cons; · repeat (first | exact Take1.head | apply Take1.tail)))) (fun w hw => of_any ((bs.drop 21).take 2) (subS (.slice al bs.length cl) 21 23 cl 1) ((hB.drop 21).take 2) (by simp; omega) w (hw.srcS (hx.sub8 (l := 21) (h := 23) (by omega))) hw.left.here) rfl ?_ -- t70 hailer/hailerref09.Of
                    rintro ⟨⟩ -
                    refine WL.on rfl rfl ?_
                    refine WL.y (Yl.move rfl) rfl ?_ -- t71
                    refine WL.on rfl rfl ?_
                    refine WL.y (Yl.sub rfl rfl (IntWalk.i64_in _ (by omega))) rfl ?_ -- t72
                    refine WL.on rfl rfl ?_
                    refine WL.y (Yl.conv un3 un65 rfl (u64_in _ (by omega))) rfl ?_ -- t73
                    refine WL.on rfl rfl ?_
                    refine WL.y (Yl.eql rfl rfl) rfl ?_ -- t74
                    refine WL.y (Yl.pickT rfl rfl) rfl ?_ -- t75
                    refine WL.y (Yl.assign rfl) rfl ?_ -- t59
                    refine WL.say (t := 59) (v' := .bool (decide ((bs.getD 0 0) = 3 ∧ 23 ≤ bs.length ∧ val ((bs.drop 21).take 2) = (bs.length : Int) - 23))) rfl (by (refine congrArg Value.bool ?_; rw [Bool.eq_iff_iff]; simp [-List.getD_eq_getElem?_getD, *]; try (first | omega | (simp at g67; omega)))) ?_
                    refine WL.nil ?_
                    exact ⟨rfl, (by repeat (first | exact Sub.nil | refine Sub.cons rfl ?_)), (by repeat (first | exact Sub.nil | refine Sub.cons rfl ?_)), _, (by repeat (first | exact TakeL.nil | (apply TakeL.cons; · repeat (first | exact Take1.head | apply Take1.tail))))⟩
                  · refine WL.off rfl rfl rfl rfl ?_ -- t68
                    refine WL.off rfl rfl rfl rfl ?_ -- t69
                    refine WL.off rfl rfl rfl rfl ?_ -- t70
                    refine WL.off rfl rfl rfl rfl ?_ -- t71
                    refine WL.off rfl rfl rfl rfl ?_ -- t72
                    refine WL.off rfl rfl rfl rfl ?_ -- t73
                    refine WL.off rfl rfl rfl rfl ?_ -- t74
                    refine WL.y (Yl.pickF rfl rfl) rfl ?_ -- t75
                    refine WL.y (Yl.assign rfl) rfl ?_ -- t59
                    refine WL.say (t := 59) (v' := .bool (decide ((bs.getD 0 0) = 3 ∧ 23 ≤ bs.length ∧ val ((bs.drop 21).take 2) = (bs.length : Int) - 23))) rfl (by (refine congrArg Value.bool ?_; rw [Bool.eq_iff_iff]; simp [-List.getD_eq_getElem?_getD, *]; try (first | omega | (simp at g67; omega)))) ?_
                    refine WL.nil ?_
                    exact ⟨rfl, (by repeat (first | exact Sub.nil | refine Sub.cons rfl ?_)), (by repeat (first | exact Sub.nil | refine Sub.cons rfl ?_)), _, (by repeat (first | exact TakeL.nil | (apply TakeL.cons; · repeat (first | exact Take1.head | apply Take1.tail))))⟩
                · refine WL.off rfl rfl rfl rfl ?_ -- t64
                  refine WL.off rfl rfl rfl rfl ?_ -- t65
                  refine WL.y (Yl.pickF rfl rfl) rfl ?_ -- t66
                  refine WL.y (Yl.move rfl) rfl ?_ -- t67
                  refine WL.off rfl rfl rfl rfl ?_ -- t68
                  refine WL.off rfl rfl rfl rfl ?_ -- t69
                  refine WL.off rfl rfl rfl rfl ?_ -- t70
                  refine WL.off rfl rfl rfl rfl ?_ -- t71
                  refine WL.off rfl rfl rfl rfl ?_ -- t72
                  refine WL.off rfl rfl rfl rfl ?_ -- t73
                  refine WL.off rfl rfl rfl rfl ?_ -- t74
                  refine WL.y (Yl.pickF rfl rfl) rfl ?_ -- t75
                  refine WL.y (Yl.assign rfl) rfl ?_ -- t59
                  refine WL.say (t := 59) (v' := .bool (decide ((bs.getD 0 0) = 3 ∧ 23 ≤ bs.length ∧ val ((bs.drop 21).take 2) = (bs.length : Int) - 23))) rfl (by (refine congrArg Value.bool ?_; rw [Bool.eq_iff_iff]; simp [-List.getD_eq_getElem?_getD, *]; try (first | omega | (simp at g67; omega)))) ?_
                  refine WL.nil ?_
                  exact ⟨rfl, (by repeat (first | exact Sub.nil | refine Sub.cons rfl ?_)), (by repeat (first | exact Sub.nil | refine Sub.cons rfl ?_)), _, (by repeat (first | exact TakeL.nil | (apply TakeL.cons; · repeat (first | exact Take1.head | apply Take1.tail))))⟩
              · refine WC.condD rfl (fun g59 => ?_) (fun g59 => ?_)
                · refine WC.seq ?_
                  refine WC.region ?_
                  refine WL.y (Yl.move rfl) rfl ?_ -- t76
                  refine WL.y (Yl.slice (l := 17) (h := 21) un22 sz5 rfl ⟨_, rfl⟩ ⟨_, rfl⟩ (by omega) (by omega)) rfl ?_ -- t77
                  refine WL.callC (xs := [.tmp 77]) (cap := []) rfl rfl en29 (by repeat (first | exact TakeL.nil | (apply TakeL.cons; · repeat (first | exact Take1.head | apply Take1.tail)))) (fun w hw => of_any ((bs.drop 17).take 4) (subS (.slice al bs.length cl) 17 21 cl 1) ((hB.drop 17).take 4) (by simp; omega) w (hw.srcS (hx.sub8 (l := 17) (h := 21) (by omega))) hw.left.here) rfl ?_ -- t78 hailer/hailerref09.Of
                  rintro ⟨⟩ -
                  refine WL.y (Yl.conv un65 un32 rfl (IntWalk.u32_in _ (by have := val4 hB 17; omega))) rfl ?_ -- t79
                  refine WL.y (Yl.field fo34_5 rfl) rfl ?_ -- t80
                  refine WL.sto (Sto.one sz32 rfl rfl (by repeat (first | exact Take1.head | apply Take1.tail)) rfl (fitLt (by rw [Sg.len2 hIl rfl]; omega)) (Sg.s52 (s := (Sg.mk (bs.getD 0 0) ((bs.drop 1).take 16) 0 0 0 zero32 0 none 0 [] 0)) hIl rfl (val ((bs.drop 17).take 4)))) (fun _ h => nomatch h) ?_
                  refine WL.nil ?_
                  refine WC.region ?_
                  refine WL.to (To.buildSlice (vs := []) un22 zs5 rfl rfl (by simp [Value.cells]) (by decide) (by decide)) rfl ?_ -- t81
                  intro b81
                  refine WL.view (fun w h => h.blkOwn (b := b81) (size := 1) (n := 0) (by repeat (first | exact Take1.head | apply Take1.tail)) (by unfold maxLen; omega) rfl) ?_
                  refine WL.y (Yl.move rfl) rfl ?_ -- t82
                  refine WL.y (Yl.slice (l := 23) un22 sz5 rfl ⟨_, rfl⟩ rfl (by omega) (by omega)) rfl ?_ -- t83
                  refine WL.to (To.append sl22 rfl rfl (by repeat (first | exact Take1.head | apply Take1.tail)) (Reads.s (hx.sub8 (l := 23) (h := bs.length) (by omega))) (ints_one _ _) (show 0 + ((bs.drop 23).take (bs.length - 23)).length = (bs.drop 23).length by rw [List.take_of_length_le (by simp), Nat.zero_add]) (show [] ++ ints .u8 ((bs.drop 23).take (bs.length - 23)) = ints .u8 (bs.drop 23) by rw [List.take_of_length_le (by simp)]; rfl) (by simp; unfold maxLen; omega) (by simp; omega)) rfl ?_ -- t84
                  rintro ⟨⟨ao84, c84⟩, hc84⟩
                  dsimp only at hc84 ⊢
                  refine WL.y (Yl.field fo34_6 rfl) rfl ?_ -- t85
                  refine WL.sto (Sto.one sz22 rfl rfl (by repeat (first | exact Take1.head | apply Take1.tail)) rfl (fitLt (by rw [Sg.len2 hIl rfl]; omega)) (Sg.s53 (s := (Sg.mk (bs.getD 0 0) ((bs.drop 1).take 16) 0 0 0 zero32 (val ((bs.drop 17).take 4)) none 0 [] 0)) hIl rfl ao84 c84 (bs.drop 23))) (fun _ h => nomatch h) ?_
                  refine WL.nil ?_
                  refine WC.seq ?_
                  refine WC.seq ?_
                  refine WC.region ?_
                  have ht : (Sg.mk (bs.getD 0 0) ((bs.drop 1).take 16) 0 0 0 zero32 (val ((bs.drop 17).take 4)) ao84 c84 (bs.drop 23) 0).ok := ⟨k0, hIl, hIb, z, z, z, zk.1, zk.2, val4 hB 17, hB.drop 23, z⟩
                  have e0 : shp bs = some (Sg.mk (bs.getD 0 0) ((bs.drop 1).take 16) 0 0 0 zero32 (val ((bs.drop 17).take 4)) none 0 (bs.drop 23) 0) := by unfold shp; rw [if_neg (by omega), if_neg g23, if_neg g47, if_pos g59]
                  refine WL.y (Yl.loadN ag34 rfl (by repeat (first | exact Take1.head | apply Take1.tail)) (fitLe (by rw [Sg.len ht]; omega)) (Sg.call ht)) rfl ?_ -- t111
                  refine WL.callC (xs := [.tmp 111]) (cap := []) rfl rfl en10 (by repeat (first | exact TakeL.nil | (apply TakeL.cons; · repeat (first | exact Take1.head | apply Take1.tail)))) (fun w hw => rsmay_any _ ht w (hw.src (A := []) RdOf.own (by repeat (first | exact Take1.head | apply Take1.tail))) hw.left.here) rfl ?_ -- t112 hailer/hailerref09.May
                  rintro ⟨⟩ -
                  refine WL.y (Yl.not rfl) rfl ?_ -- t113
                  refine WL.nil ?_
                  refine WC.cond rfl (fun g113 => ?_) (fun g113 => ?_)
                  · refine WC.seq ?_
                    refine WC.region ?_
                    refine WL.y (Yl.loadN ag34 rfl (by repeat (first | exact Take1.head | apply Take1.tail)) (by rfl) (Sg.call zero_sg)) rfl ?_ -- t114
                    refine WL.sto (Sto.agg sz34 rfl rfl (by repeat (first | exact Take1.head | apply Take1.tail)) (Sg.ones _) rfl (by rfl) (Sg.all rfl Sg.zero.cells)) (fun _ h => nomatch h) ?_ -- st 12
                    refine WL.y (Yl.assign rfl) rfl ?_ -- t3
                    refine WL.nil ?_
                    refine WC.ret ?_
                    repeat (first | (with_reducible refine peelT ?_) | (with_reducible refine peelB ?_) | (with_reducible refine peelTX ?_) | (with_reducible refine peelBX ?_) | (with_reducible refine peelBN ?_) | (with_reducible refine peelBO rfl ?_))
                    have e := sigT_bad e0 (notT g113)
                    exact retC2 (.inr rfl) Try.results13 ag34 rfl rfl (by repeat (first | exact Take1.head | apply Take1.tail)) rfl fun w' hh => ⟨(none, 0), trivial, by rw [e]; rfl, by rw [e]; exact (hh.addNil 5 1).sub (by repeat (first | exact TakeL.nil | (apply TakeL.cons; · repeat (first | exact Take1.head | apply Take1.tail))))⟩
                  · refine WC.skip ?_
                    refine WC.seq ?_
                    refine WC.region ?_
                    refine WL.y (Yl.loadN ag34 rfl (by repeat (first | exact Take1.head | apply Take1.tail)) (fitLe (by rw [Sg.len ht]; omega)) (Sg.call ht)) rfl ?_ -- t115
                    refine WL.sto (Sto.agg sz34 rfl rfl (by repeat (first | exact Take1.head | apply Take1.tail)) (Sg.ones _) (Sg.len ht) (by rfl) (Sg.all rfl _)) (fun _ h => nomatch h) ?_ -- st 13
                    refine WL.y (Yl.assign rfl) rfl ?_ -- t3
                    refine WL.nil ?_
                    refine WC.ret ?_
                    repeat (first | (with_reducible refine peelT ?_) | (with_reducible refine peelB ?_) | (with_reducible refine peelTX ?_) | (with_reducible refine peelBX ?_) | (with_reducible refine peelBN ?_) | (with_reducible refine peelBO rfl ?_))
                    have e := sigT_ok e0 (notF g113)
                    exact retC2 (.inr rfl) Try.results13 ag34 rfl rfl (by repeat (first | exact Take1.head | apply Take1.tail)) (Sg.len ht) fun w' hh => ⟨(ao84, c84), trivial, by rw [e], by rw [e]; exact hh.sub (by repeat (first | exact TakeL.nil | (apply TakeL.cons; · repeat (first | exact Take1.head | apply Take1.tail))))⟩
                · refine WC.midK [(86, .bool (decide (((bs.getD 0 0) = 4 ∨ (bs.getD 0 0) = 6) ∧ bs.length = 17)))] [blkR b5 34 (Sg.mk (bs.getD 0 0) ((bs.drop 1).take 16) 0 0 0 zero32 0 none 0 [] 0).cells, blkR b4 34 Sg.zero.cells, blkR b2 34 Sg.zero.cells] ?_ ?_
                  · refine WC.region ?_
                    refine WL.y (Yl.field fo34_0 rfl) rfl ?_ -- t87
                    refine WL.y (Yl.load on5 rfl (by repeat (first | exact Take1.head | apply Take1.tail)) Sg.c0) rfl ?_ -- t88
                    refine WL.y (Yl.eql rfl rfl) rfl ?_ -- t89
                    refine WL.y (Yl.move rfl) rfl ?_ -- t90
                    refine WL.both (t := 90) rfl (fun g90 => ?_) (fun g90 => ?_)
                    · refine WL.off rfl rfl rfl rfl ?_ -- t91
                      refine WL.off rfl rfl rfl rfl ?_ -- t92
                      refine WL.off rfl rfl rfl rfl ?_ -- t93
                      refine WL.y (Yl.pickT rfl rfl) rfl ?_ -- t94
                      refine WL.y (Yl.move rfl) rfl ?_ -- t95
                      refine WL.on rfl rfl ?_
                      refine WL.y (Yl.move rfl) rfl ?_ -- t96
                      refine WL.on rfl rfl ?_
                      refine WL.y (Yl.eql rfl rfl) rfl ?_ -- t97
                      refine WL.y (Yl.pickT rfl rfl) rfl ?_ -- t98
                      refine WL.y (Yl.assign rfl) rfl ?_ -- t86
                      refine WL.say (t := 86) (v' := .bool (decide (((bs.getD 0 0) = 4 ∨ (bs.getD 0 0) = 6) ∧ bs.length = 17))) rfl (by (refine congrArg Value.bool ?_; rw [Bool.eq_iff_iff]; simp [-List.getD_eq_getElem?_getD, *]; try omega)) ?_
                      refine WL.nil ?_
                      exact ⟨rfl, (by repeat (first | exact Sub.nil | refine Sub.cons rfl ?_)), (by repeat (first | exact Sub.nil | refine Sub.cons rfl ?_)), _, (by repeat (first | exact TakeL.nil | (apply TakeL.cons; · repeat (first | exact Take1.head | apply Take1.tail))))⟩
                    · refine WL.on rfl rfl ?_
                      refine WL.y (Yl.field fo34_0 rfl) rfl ?_ -- t91
                      refine WL.on rfl rfl ?_
                      refine WL.y (Yl.load on5 rfl (by repeat (first | exact Take1.head | apply Take1.tail)) Sg.c0) rfl ?_ -- t92
                      refine WL.on rfl rfl ?_
                      refine WL.y (Yl.eql rfl rfl) rfl ?_ -- t93
                      refine WL.y (Yl.pickF rfl rfl) rfl ?_ -- t94
                      refine WL.y (Yl.move rfl) rfl ?_ -- t95
                      refine WL.both (t := 95) rfl (fun g95 => ?_) (fun g95 => ?_)
                      · refine WL.on rfl rfl ?_
                        refine WL.y (Yl.move rfl) rfl ?_ -- t96
                        refine WL.on rfl rfl ?_
                        refine WL.y (Yl.eql rfl rfl) rfl ?_ -- t97
                        refine WL.y (Yl.pickT rfl rfl) rfl ?_ -- t98
                        refine WL.y (Yl.assign rfl) rfl ?_ -- t86
                        refine WL.say (t := 86) (v' := .bool (decide (((bs.getD 0 0) = 4 ∨ (bs.getD 0 0) = 6) ∧ bs.length = 17))) rfl (by (refine congrArg Value.bool ?_; rw [Bool.eq_iff_iff]; simp [-List.getD_eq_getElem?_getD, *]; try omega)) ?_
                        refine WL.nil ?_
                        exact ⟨rfl, (by repeat (first | exact Sub.nil | refine Sub.cons rfl ?_)), (by repeat (first | exact Sub.nil | refine Sub.cons rfl ?_)), _, (by repeat (first | exact TakeL.nil | (apply TakeL.cons; · repeat (first | exact Take1.head | apply Take1.tail))))⟩
                      · refine WL.off rfl rfl rfl rfl ?_ -- t96
                        refine WL.off rfl rfl rfl rfl ?_ -- t97
                        refine WL.y (Yl.pickF rfl rfl) rfl ?_ -- t98
                        refine WL.y (Yl.assign rfl) rfl ?_ -- t86
                        refine WL.say (t := 86) (v' := .bool (decide (((bs.getD 0 0) = 4 ∨ (bs.getD 0 0) = 6) ∧ bs.length = 17))) rfl (by (refine congrArg Value.bool ?_; rw [Bool.eq_iff_iff]; simp [-List.getD_eq_getElem?_getD, *]; try omega)) ?_
                        refine WL.nil ?_
                        exact ⟨rfl, (by repeat (first | exact Sub.nil | refine Sub.cons rfl ?_)), (by repeat (first | exact Sub.nil | refine Sub.cons rfl ?_)), _, (by repeat (first | exact TakeL.nil | (apply TakeL.cons; · repeat (first | exact Take1.head | apply Take1.tail))))⟩
                  · refine WC.condD rfl (fun g86 => ?_) (fun g86 => ?_)
                    · refine WC.skip ?_
                      refine WC.seq ?_
                      refine WC.seq ?_
                      refine WC.region ?_
                      have ht : ((Sg.mk (bs.getD 0 0) ((bs.drop 1).take 16) 0 0 0 zero32 0 none 0 [] 0)).ok := ⟨k0, hIl, hIb, z, z, z, zk.1, zk.2, z4, zd, z⟩
                      have e0 : shp bs = some (Sg.mk (bs.getD 0 0) ((bs.drop 1).take 16) 0 0 0 zero32 0 none 0 [] 0) := by unfold shp; rw [if_neg (by omega), if_neg g23, if_neg g47, if_neg g59, if_pos g86]
                      refine WL.y (Yl.loadN ag34 rfl (by repeat (first | exact Take1.head | apply Take1.tail)) (fitLe (by rw [Sg.len ht]; omega)) (Sg.call ht)) rfl ?_ -- t111
                      refine WL.callC (xs := [.tmp 111]) (cap := []) rfl rfl en10 (by repeat (first | exact TakeL.nil | (apply TakeL.cons; · repeat (first | exact Take1.head | apply Take1.tail)))) (fun w hw => rsmay_any _ ht w RdS.nil8 hw.left.here) rfl ?_ -- t112 hailer/hailerref09.May
                      rintro ⟨⟩ -
                      refine WL.y (Yl.not rfl) rfl ?_ -- t113
                      refine WL.nil ?_
                      refine WC.cond rfl (fun g113 => ?_) (fun g113 => ?_)
                      · refine WC.seq ?_
                        refine WC.region ?_
                        refine WL.y (Yl.loadN ag34 rfl (by repeat (first | exact Take1.head | apply Take1.tail)) (by rfl) (Sg.call zero_sg)) rfl ?_ -- t114
                        refine WL.sto (Sto.agg sz34 rfl rfl (by repeat (first | exact Take1.head | apply Take1.tail)) (Sg.ones _) rfl (by rfl) (Sg.all rfl Sg.zero.cells)) (fun _ h => nomatch h) ?_ -- st 12
                        refine WL.y (Yl.assign rfl) rfl ?_ -- t3
                        refine WL.nil ?_
                        refine WC.ret ?_
                        repeat (first | (with_reducible refine peelT ?_) | (with_reducible refine peelB ?_) | (with_reducible refine peelTX ?_) | (with_reducible refine peelBX ?_) | (with_reducible refine peelBN ?_) | (with_reducible refine peelBO rfl ?_))
                        have e := sigT_bad e0 (notT g113)
                        exact retC2 (.inr rfl) Try.results13 ag34 rfl rfl (by repeat (first | exact Take1.head | apply Take1.tail)) rfl fun w' hh => ⟨(none, 0), trivial, by rw [e]; rfl, by rw [e]; exact (hh.addNil 5 1).sub (by repeat (first | exact TakeL.nil | (apply TakeL.cons; · repeat (first | exact Take1.head | apply Take1.tail))))⟩
                      · refine WC.skip ?_
                        refine WC.seq ?_
                        refine WC.region ?_
                        refine WL.y (Yl.loadN ag34 rfl (by repeat (first | exact Take1.head | apply Take1.tail)) (fitLe (by rw [Sg.len ht]; omega)) (Sg.call ht)) rfl ?_ -- t115
                        refine WL.sto (Sto.agg sz34 rfl rfl (by repeat (first | exact Take1.head | apply Take1.tail)) (Sg.ones _) (Sg.len ht) (by rfl) (Sg.all rfl _)) (fun _ h => nomatch h) ?_ -- st 13
                        refine WL.y (Yl.assign rfl) rfl ?_ -- t3
                        refine WL.nil ?_
                        refine WC.ret ?_
                        repeat (first | (with_reducible refine peelT ?_) | (with_reducible refine peelB ?_) | (with_reducible refine peelTX ?_) | (with_reducible refine peelBX ?_) | (with_reducible refine peelBN ?_) | (with_reducible refine peelBO rfl ?_))
                        have e := sigT_ok e0 (notF g113)
                        exact retC2 (.inr rfl) Try.results13 ag34 rfl rfl (by repeat (first | exact Take1.head | apply Take1.tail)) (Sg.len ht) fun w' hh => ⟨(none, 0), trivial, by rw [e], by rw [e]; exact (hh.addNil 5 1).sub (by repeat (first | exact TakeL.nil | (apply TakeL.cons; · repeat (first | exact Take1.head | apply Take1.tail))))⟩
                    · refine WC.midK [(99, .bool (decide ((bs.getD 0 0) = 5 ∧ bs.length = 18)))] [blkR b5 34 (Sg.mk (bs.getD 0 0) ((bs.drop 1).take 16) 0 0 0 zero32 0 none 0 [] 0).cells, blkR b4 34 Sg.zero.cells, blkR b2 34 Sg.zero.cells] ?_ ?_
                      · refine WC.region ?_
                        refine WL.y (Yl.field fo34_0 rfl) rfl ?_ -- t100
                        refine WL.y (Yl.load on5 rfl (by repeat (first | exact Take1.head | apply Take1.tail)) Sg.c0) rfl ?_ -- t101
                        refine WL.y (Yl.eql rfl rfl) rfl ?_ -- t102
                        refine WL.y (Yl.move rfl) rfl ?_ -- t103
                        refine WL.both (t := 103) rfl (fun g103 => ?_) (fun g103 => ?_)
                        · refine WL.on rfl rfl ?_
                          refine WL.y (Yl.move rfl) rfl ?_ -- t104
                          refine WL.on rfl rfl ?_
                          refine WL.y (Yl.eql rfl rfl) rfl ?_ -- t105
                          refine WL.y (Yl.pickT rfl rfl) rfl ?_ -- t106
                          refine WL.y (Yl.assign rfl) rfl ?_ -- t99
                          refine WL.say (t := 99) (v' := .bool (decide ((bs.getD 0 0) = 5 ∧ bs.length = 18))) rfl (by (refine congrArg Value.bool ?_; rw [Bool.eq_iff_iff]; simp [-List.getD_eq_getElem?_getD, *]; try omega)) ?_
                          refine WL.nil ?_
                          exact ⟨rfl, (by repeat (first | exact Sub.nil | refine Sub.cons rfl ?_)), (by repeat (first | exact Sub.nil | refine Sub.cons rfl ?_)), _, (by repeat (first | exact TakeL.nil | (apply TakeL.cons; · repeat (first | exact Take1.head | apply Take1.tail))))⟩
                        · refine WL.off rfl rfl rfl rfl ?_ -- t104
                          refine WL.off rfl rfl rfl rfl ?_ -- t105
                          refine WL.y (Yl.pickF rfl rfl) rfl ?_ -- t106
                          refine WL.y (Yl.assign rfl) rfl ?_ -- t99
                          refine WL.say (t := 99) (v' := .bool (decide ((bs.getD 0 0) = 5 ∧ bs.length = 18))) rfl (by (refine congrArg Value.bool ?_; rw [Bool.eq_iff_iff]; simp [-List.getD_eq_getElem?_getD, *]; try omega)) ?_
                          refine WL.nil ?_
                          exact ⟨rfl, (by repeat (first | exact Sub.nil | refine Sub.cons rfl ?_)), (by repeat (first | exact Sub.nil | refine Sub.cons rfl ?_)), _, (by repeat (first | exact TakeL.nil | (apply TakeL.cons; · repeat (first | exact Take1.head | apply Take1.tail))))⟩
                      · refine WC.condD rfl (fun g99 => ?_) (fun g99 => ?_)
                        · refine WC.region ?_
                          refine WL.y (Yl.move rfl) rfl ?_ -- t107
                          refine WL.y (Yl.index (j := 17) un22 sz5 rfl rfl (Reads.s hx) rfl (by omega)) rfl ?_ -- t108
                          refine WL.y (Yl.loadE on5 rfl (Reads.s hx) (ints_get .u8 bs 17 (by omega))) rfl ?_ -- t109
                          refine WL.y (Yl.field fo34_7 rfl) rfl ?_ -- t110
                          refine WL.sto (Sto.one sz5 rfl rfl (by repeat (first | exact Take1.head | apply Take1.tail)) rfl (fitLt (by rw [Sg.len2 hIl rfl]; omega)) (Sg.s54 (s := (Sg.mk (bs.getD 0 0) ((bs.drop 1).take 16) 0 0 0 zero32 0 none 0 [] 0)) hIl rfl (bs.getD 17 0))) (fun _ h => nomatch h) ?_
                          refine WL.nil ?_
                          refine WC.seq ?_
                          refine WC.seq ?_
                          refine WC.region ?_
                          have ht : ((Sg.mk (bs.getD 0 0) ((bs.drop 1).take 16) 0 0 0 zero32 0 none 0 [] (bs.getD 17 0))).ok := ⟨k0, hIl, hIb, z, z, z, zk.1, zk.2, z4, zd, get8 hB 17⟩
                          have e0 : shp bs = some (Sg.mk (bs.getD 0 0) ((bs.drop 1).take 16) 0 0 0 zero32 0 none 0 [] (bs.getD 17 0)) := by unfold shp; rw [if_neg (by omega), if_neg g23, if_neg g47, if_neg g59, if_neg g86, if_pos g99]
                          refine WL.y (Yl.loadN ag34 rfl (by repeat (first | exact Take1.head | apply Take1.tail)) (fitLe (by rw [Sg.len ht]; omega)) (Sg.call ht)) rfl ?_ -- t111
                          refine WL.callC (xs := [.tmp 111]) (cap := []) rfl rfl en10 (by repeat (first | exact TakeL.nil | (apply TakeL.cons; · repeat (first | exact Take1.head | apply Take1.tail)))) (fun w hw => rsmay_any _ ht w RdS.nil8 hw.left.here) rfl ?_ -- t112 hailer/hailerref09.May
                          rintro ⟨⟩ -
                          refine WL.y (Yl.not rfl) rfl ?_ -- t113
                          refine WL.nil ?_
                          refine WC.cond rfl (fun g113 => ?_) (fun g113 => ?_)
                          · refine WC.seq ?_
                            refine WC.region ?_
                            refine WL.y (Yl.loadN ag34 rfl (by repeat (first | exact Take1.head | apply Take1.tail)) (by rfl) (Sg.call zero_sg)) rfl ?_ -- t114
                            refine WL.sto (Sto.agg sz34 rfl rfl (by repeat (first | exact Take1.head | apply Take1.tail)) (Sg.ones _) rfl (by rfl) (Sg.all rfl Sg.zero.cells)) (fun _ h => nomatch h) ?_ -- st 12
                            refine WL.y (Yl.assign rfl) rfl ?_ -- t3
                            refine WL.nil ?_
                            refine WC.ret ?_
                            repeat (first | (with_reducible refine peelT ?_) | (with_reducible refine peelB ?_) | (with_reducible refine peelTX ?_) | (with_reducible refine peelBX ?_) | (with_reducible refine peelBN ?_) | (with_reducible refine peelBO rfl ?_))
                            have e := sigT_bad e0 (notT g113)
                            exact retC2 (.inr rfl) Try.results13 ag34 rfl rfl (by repeat (first | exact Take1.head | apply Take1.tail)) rfl fun w' hh => ⟨(none, 0), trivial, by rw [e]; rfl, by rw [e]; exact (hh.addNil 5 1).sub (by repeat (first | exact TakeL.nil | (apply TakeL.cons; · repeat (first | exact Take1.head | apply Take1.tail))))⟩
                          · refine WC.skip ?_
                            refine WC.seq ?_
                            refine WC.region ?_
                            refine WL.y (Yl.loadN ag34 rfl (by repeat (first | exact Take1.head | apply Take1.tail)) (fitLe (by rw [Sg.len ht]; omega)) (Sg.call ht)) rfl ?_ -- t115
                            refine WL.sto (Sto.agg sz34 rfl rfl (by repeat (first | exact Take1.head | apply Take1.tail)) (Sg.ones _) (Sg.len ht) (by rfl) (Sg.all rfl _)) (fun _ h => nomatch h) ?_ -- st 13
                            refine WL.y (Yl.assign rfl) rfl ?_ -- t3
                            refine WL.nil ?_
                            refine WC.ret ?_
                            repeat (first | (with_reducible refine peelT ?_) | (with_reducible refine peelB ?_) | (with_reducible refine peelTX ?_) | (with_reducible refine peelBX ?_) | (with_reducible refine peelBN ?_) | (with_reducible refine peelBO rfl ?_))
                            have e := sigT_ok e0 (notF g113)
                            exact retC2 (.inr rfl) Try.results13 ag34 rfl rfl (by repeat (first | exact Take1.head | apply Take1.tail)) (Sg.len ht) fun w' hh => ⟨(none, 0), trivial, by rw [e], by rw [e]; exact (hh.addNil 5 1).sub (by repeat (first | exact TakeL.nil | (apply TakeL.cons; · repeat (first | exact Take1.head | apply Take1.tail))))⟩
                        · refine WC.seq ?_
                          refine WC.region ?_
                          refine WL.y (Yl.loadN ag34 rfl (by repeat (first | exact Take1.head | apply Take1.tail)) (by rfl) (Sg.call zero_sg)) rfl ?_ -- t22
                          refine WL.sto (Sto.agg sz34 rfl rfl (by repeat (first | exact Take1.head | apply Take1.tail)) (Sg.ones _) rfl (by rfl) (Sg.all rfl Sg.zero.cells)) (fun _ h => nomatch h) ?_ -- st 11
                          refine WL.y (Yl.assign rfl) rfl ?_ -- t3
                          refine WL.nil ?_
                          refine WC.ret ?_
                          repeat (first | (with_reducible refine peelT ?_) | (with_reducible refine peelB ?_) | (with_reducible refine peelTX ?_) | (with_reducible refine peelBX ?_) | (with_reducible refine peelBN ?_) | (with_reducible refine peelBO rfl ?_))
                          have e := sigT_none (bs := bs) (by unfold shp; rw [if_neg (by omega), if_neg g23, if_neg g47, if_neg g59, if_neg g86, if_neg g99])
                          exact retC2 (.inr rfl) Try.results13 ag34 rfl rfl (by repeat (first | exact Take1.head | apply Take1.tail)) rfl fun w' hh => ⟨(none, 0), trivial, by rw [e]; rfl, by rw [e]; exact (hh.addNil 5 1).sub (by repeat (first | exact TakeL.nil | (apply TakeL.cons; · repeat (first | exact Take1.head | apply Take1.tail))))⟩
end Go.Proofs.Ytnmeoleahcnnkaa
