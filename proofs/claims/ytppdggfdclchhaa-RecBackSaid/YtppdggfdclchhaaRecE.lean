/- The laws' own walks: works. -/
import Derived.Test.YtppdggfdclchhaaRecD
import Derived.Test.YtppdggfdclchhaaRecS
namespace Go.Proofs.Ytppdggfdclchhaa
open Go Go.RowKit

theorem recAll_n (bs : List Int) (n : Nat) (hn : bs.length = n) (v : Value) (hB : Bytes bs) (hsz : n ≤ 1000000) (w : World) (hw : OK w (fpL [rdR v 1 n (ints .u8 bs)]) [rdR v 1 n (ints .u8 bs)] w) :
    Fn Try.prog 15 [v] [rdR v 1 n (ints .u8 bs)] w (fun _ : Nat × (Nat → Prop) => True) (fun y => .func (.func 33) #[] #[.pointer (some ⟨y.1, 0, none⟩)]) (fun y => [itR Try.prog 33 [.pointer (some ⟨y.1, 0, none⟩)] y.2 (recYs bs)]) := by
  subst hn
  exact recAll_any bs v hB hsz w hw

theorem works_any (w : World) (hw : OK w (fpL []) [] w) : Fn Try.prog 9 [] [] w (fun _ : Unit => True) (fun _ => .bool true) (fun _ => []) := by
  have hm : mayB oneC = true := by simp [mayB, oneC]
  obtain ⟨bs, hbs⟩ : ∃ bs, bs = recB oneC ++ [9] := ⟨_, rfl⟩
  have hall : ∀ r ∈ [oneC], r.ok ∧ mayB r = true := by
    intro r hr
    rw [List.mem_singleton.1 hr]
    exact ⟨oneC_ok, hm⟩
  have e1 : bs = allB [oneC] ++ [9] := by rw [hbs]; simp [allB]
  have hN : recN bs = 1 := by rw [e1]; exact allB_recN hall (by simp)
  have hat : recAt bs 0 = oneC := by rw [e1]; exact allB_at (rs := [oneC]) (fun r hr => (hall r hr).1) [9] (i := 0) (by simp)
  have hlen : bs.length = 44 := by rw [hbs, List.length_append, recB_len oneC_ok.len]; rfl
  have hB : Bytes bs := by
    rw [hbs]
    exact (recB_bytes oneC_ok).app (fun x hx => by rw [List.mem_singleton.1 hx]; omega)
  have hcat : ints .u8 (recB oneC) ++ [.int .u8 9] = ints .u8 bs := by rw [hbs]; simp [ints]
  refine enterM Try.func9 rfl Try.ntmps9 rfl hw ?_
  refine WC.seq ?_
  refine WC.region ?_
  refine WL.to (To.alloc zr4 rfl) rfl ?_ -- t0
  intro b0
  refine WL.nil ?_
  refine WC.seq ?_
  refine WC.region ?_
  refine WL.callC (xs := []) (cap := []) rfl rfl en28 (by repeat (first | exact TakeL.nil | (apply TakeL.cons; · repeat (first | exact Take1.head | apply Take1.tail)))) (fun w hw => one_any w hw.left.here) rfl ?_ -- t7 hailer/hailerlaw11.one
  rintro ⟨⟩ -
  refine WL.callC (xs := [.tmp 7]) (cap := []) rfl rfl en7 (by repeat (first | exact TakeL.nil | (apply TakeL.cons; · repeat (first | exact Take1.head | apply Take1.tail)))) (fun w hw => rput_ok oneC oneC_ok hm w hw.left.here) rfl ?_ -- t8 hailer/rec.Put
  rintro ⟨a8, c8⟩ hc8
  dsimp only at hc8 ⊢
  refine WL.y (Yl.move rfl) rfl ?_ -- t6
  refine WL.y (Yl.extract rfl rfl) rfl ?_ -- t9
  refine WL.y (Yl.extract rfl rfl) rfl ?_ -- t10
  refine WL.y (Yl.assign rfl) rfl ?_ -- t1
  refine WL.y (Yl.assign rfl) rfl ?_ -- t2
  refine WL.nil ?_
  refine WC.seq ?_
  refine WC.seq ?_
  refine WC.region ?_
  refine WL.y (Yl.move rfl) rfl ?_ -- t11
  refine WL.y (Yl.neq rfl rfl) rfl ?_ -- t12
  refine WL.know (t := 12) (b' := false) rfl (by first | rfl | (simp; done) | (simp; omega)) ?_
  refine WL.y (Yl.move rfl) rfl ?_ -- t13
  refine WL.on rfl rfl ?_
  refine WL.y (Yl.move rfl) rfl ?_ -- t14
  refine WL.on rfl rfl ?_
  refine WL.y (Yl.len un28 rfl) rfl ?_ -- t15
  refine WL.on rfl rfl ?_
  refine WL.y (Yl.neq rfl rfl) rfl ?_ -- t16
  refine WL.know (t := 16) (b' := false) rfl (by first | rfl | (simp; done) | (simp; omega)) ?_
  refine WL.y (Yl.pickF rfl rfl) rfl ?_ -- t17
  refine WL.nil ?_
  refine WC.condF rfl (by first | rfl | (simp; done) | (simp; omega)) ?_
  refine WC.skip ?_
  refine WC.seq ?_
  refine WC.region ?_
  refine WL.to (To.alloc zr3 rfl) rfl ?_ -- t3
  intro b3
  refine WL.sto (Sto.one sz3 rfl rfl (by repeat (first | exact Take1.head | apply Take1.tail)) rfl (by rfl) (by rfl)) (fun _ h => nomatch h) ?_ -- st 2
  refine WL.nil ?_
  refine WC.seq ?_
  refine WC.seq ?_
  refine WC.region ?_
  refine WL.to (To.buildSlice (vs := []) un28 zs5 rfl rfl (by simp [Value.cells]) (by decide) (by decide)) rfl ?_ -- t18
  intro b18
  refine WL.view (fun w h => h.blkOwn (b := b18) (size := 1) (n := 0) (by repeat (first | exact Take1.head | apply Take1.tail)) (by unfold maxLen; omega) rfl) ?_
  refine WL.y (Yl.move rfl) rfl ?_ -- t19
  refine WL.to (To.append sl28 rfl rfl (by repeat (first | exact Take1.head | apply Take1.tail)) (Reads.of RdOf.own (by repeat (first | exact Take1.head | apply Take1.tail))) (ints_one _ _) rfl (by rfl) (by unfold maxLen; omega) (by omega)) rfl ?_ -- t20
  rintro ⟨⟨ao20, c20⟩, hc20⟩
  dsimp only at hc20 ⊢
  refine WL.to (To.buildSlice (vs := [.int .u8 9]) un28 zs5 rfl rfl (by simp [Value.cells]) (by decide) (by decide)) rfl ?_ -- t21
  intro b21
  refine WL.to (To.append sl28 rfl rfl (by repeat (first | exact Take1.head | apply Take1.tail)) (Reads.of (RdOf.blk (size := 1) (cs := [.int .u8 9]) (cs' := [.int .u8 9]) (Nat.le_refl _) (by unfold maxLen; omega) (by simp) rfl) (by repeat (first | exact Take1.head | apply Take1.tail))) (by intro v hv; rw [List.mem_singleton.1 hv]; rfl) rfl hcat (by unfold maxLen; omega) (by omega)) rfl ?_ -- t22
  rintro ⟨⟨ao22, c22⟩, hc22⟩
  dsimp only at hc22 ⊢
  refine WL.view (fun w h => h.readOnly (v := .slice ao22 44 c22) (by repeat (first | exact Take1.head | apply Take1.tail))) ?_
  refine WL.callC (xs := [.tmp 22]) (cap := []) rfl rfl en15 (by repeat (first | exact TakeL.nil | (apply TakeL.cons; · repeat (first | exact Take1.head | apply Take1.tail)))) (fun w hw => recAll_n bs 44 hlen _ hB (by omega) w hw.left.here) rfl ?_ -- t23 hailer/rec.All
  rintro ⟨bb, own⟩ -
  refine WL.nil ?_
  refine WC.block ?_
  refine WC.range (α := Unit) (xs := recYs bs) (fun i _ => [blkR b3 3 [.int .i64 ((i : Nat) : Int)], blkR b0 4 [.bool false]]) (fun _ _ => True) () rfl en33 recYs_size rfl (by repeat (first | exact Take1.head | apply Take1.tail)) trivial (by repeat (first | exact TakeL.nil | (apply TakeL.cons; · repeat (first | exact Take1.head | apply Take1.tail)))) ?_ ?_
  · intro l i x _ hx _ W
    obtain ⟨hi, rfl⟩ := recYs_at hx
    have hi0 : i = 0 := by omega
    subst hi0
    have hY : recY bs 0 = #[.int .i64 0, .agg oneC.cells.toArray] := by unfold recY; rw [hat]; rfl
    rw [hY]
    show WC _ _ _ ((25, .agg oneC.cells.toArray) :: (24, .int .i64 0) :: _) _ _
    refine WC.seq ?_
    refine WC.region ?_
    refine WL.y (Yl.assign rfl) rfl ?_ -- t4
    refine WL.nil ?_
    refine WC.region ?_
    refine WL.to (To.alloc (cs := Rc.zero.cells) zr26 rfl) rfl ?_ -- t5
    intro b5
    refine WL.sto (Sto.agg sz26 rfl rfl (by repeat (first | exact Take1.head | apply Take1.tail)) (Rc.ones _) rfl (by rfl) (Rc.all (r := Rc.zero) rfl oneC.cells rfl)) (fun _ h => nomatch h) ?_ -- st 3
    refine WL.nil ?_
    repeat (first | (with_reducible refine peelT ?_) | (with_reducible refine peelB ?_) | (with_reducible refine peelTX ?_) | (with_reducible refine peelBX ?_) | (with_reducible refine peelBN ?_) | (with_reducible refine peelBO rfl ?_))
    refine fun W2 => ?_
    refine WC.block ?_
    refine WC.seq ?_
    refine WC.seq ?_
    refine WC.drawAny (Hs := [blkR b5 26 oneC.cells]) mixed (by kernel_rfl) ⟨_, (by repeat (first | exact TakeL.nil | (apply TakeL.cons; · repeat (first | exact Take1.head | apply Take1.tail))))⟩ ?_
    refine WD.take 0 rfl (by kernel_rfl) (by kernel_rfl) (by kernel_rfl) rfl rfl (Yl.move rfl) rfl ?_ -- t26
    refine WD.take 1 rfl (by kernel_rfl) (by kernel_rfl) (by kernel_rfl) rfl rfl (Yl.neq rfl rfl) rfl ?_ -- t27
    refine WD.know (t := 27) (b' := false) rfl (by first | rfl | (simp; done) | (simp; omega)) ?_
    refine WD.take 2 rfl (by kernel_rfl) (by kernel_rfl) (by kernel_rfl) rfl rfl (Yl.move rfl) rfl ?_ -- t28
    refine WD.takeOn 3 rfl (by kernel_rfl) (by kernel_rfl) (by kernel_rfl) rfl rfl rfl rfl (Yl.loadN ag26 rfl (by repeat (first | exact Take1.head | apply Take1.tail)) (leB (by rw [Rc.cells_len oneC_ok.len]; omega)) (Rc.call oneC_ok.len)) rfl ?_ -- t29
    refine WD.one 4 (by kernel_rfl) ?_
    refine WO.callC (xs := []) (cap := []) rfl (.on rfl rfl) rfl rfl en28 (by repeat (first | exact TakeL.nil | (apply TakeL.cons; · repeat (first | exact Take1.head | apply Take1.tail)))) (fun w hw => one_any w hw.left.here) rfl (fun _ => ⟨_, (by repeat (first | exact TakeL.nil | (apply TakeL.cons; · repeat (first | exact Take1.head | apply Take1.tail))))⟩) ?_ -- t30 hailer/hailerlaw11.one
    rintro ⟨⟩ -
    refine WD.takeOn 5 rfl (by kernel_rfl) (by kernel_rfl) (by kernel_rfl) rfl rfl rfl rfl (Yl.neA flRec rfl rfl oneC_ok.fits oneC_ok.fits) rfl ?_
    refine WD.know (t := 31) (b' := false) rfl (by simp [eqV_self]) ?_
    refine WD.take 6 rfl (by kernel_rfl) (by kernel_rfl) (by kernel_rfl) rfl rfl (Yl.pickF rfl rfl) rfl ?_ -- t32
    refine WD.done (by kernel_rfl) ?_
    refine WC.condF rfl (by first | rfl | (simp; done) | (simp; omega)) ?_
    refine WC.skip ?_
    refine WC.region ?_
    refine WL.y (Yl.load on3 rfl (by repeat (first | exact Take1.head | apply Take1.tail)) (by rfl)) rfl ?_ -- t33
    refine WL.y (Yl.add rfl rfl (IntWalk.i64_in _ (by omega))) rfl ?_ -- t34
    refine WL.sto (Sto.one sz3 rfl rfl (by repeat (first | exact Take1.head | apply Take1.tail)) rfl (by rfl) (by rfl)) (fun _ h => nomatch h) ?_ -- st 5
    refine WL.nil ?_
    repeat (first | (with_reducible refine peelT ?_) | (with_reducible refine peelB ?_) | (with_reducible refine peelTX ?_) | (with_reducible refine peelBX ?_) | (with_reducible refine peelBN ?_) | (with_reducible refine peelBO rfl ?_))
    exact ⟨[blkR b3 3 [.int .i64 1], blkR b0 4 [.bool false]], _, (by repeat (first | exact TakeL.nil | (apply TakeL.cons; · repeat (first | exact Take1.head | apply Take1.tail)))), (), trivial, rfl⟩
  · rintro _ D -
    rw [recYs_len, hN]
    dsimp only [List.cons_append, List.nil_append]
    refine WC.seq ?_
    refine WC.region ?_
    refine WL.y (Yl.load on3 rfl (by repeat (first | exact Take1.head | apply Take1.tail)) (by rfl)) rfl ?_ -- t35
    refine WL.y (Yl.eql rfl rfl) rfl ?_ -- t36
    refine WL.know (t := 36) (b' := true) rfl (by first | rfl | (simp; done) | (simp; omega)) ?_
    refine WL.sto (Sto.one sz4 rfl rfl (by repeat (first | exact Take1.head | apply Take1.tail)) rfl (by rfl) (by rfl)) (fun _ h => nomatch h) ?_ -- st 6
    refine WL.nil ?_
    refine WC.ret ?_
    repeat (first | (with_reducible refine peelT ?_) | (with_reducible refine peelB ?_) | (with_reducible refine peelTX ?_) | (with_reducible refine peelBX ?_) | (with_reducible refine peelBN ?_) | (with_reducible refine peelBO rfl ?_))
    refine retM.of (.cons (by repeat (first | exact Take1.head | apply Take1.tail)) .nil) ?_
    exact retV1 (.inr rfl) Try.results9 on4 rfl (by repeat (first | exact Take1.head | apply Take1.tail)) fun w' h => ⟨(), trivial, rfl, h.sub (by repeat (first | exact TakeL.nil | (apply TakeL.cons; · repeat (first | exact Take1.head | apply Take1.tail))))⟩

theorem leN {a b : Nat} (h : Nat.ble a b = true) : a ≤ b := Nat.le_of_ble_eq_true h
theorem RdS.len {w : World} {T : Pm} {v : Value} {n m : Nat} {cs : List Value} (h : RdS w T v 1 n cs) (e : n = m) : RdS w T v 1 m cs := e ▸ h

def kn : Nat → Rc
  | 0 => { Rc.zero with en := 2 }
  | 1 => { Rc.zero with oc := 1, bg := 3, en := 2 }
  | _ => { Rc.zero with oc := 1, bg := 3, an := 2, en := 9 }
theorem kn_ok (j : Nat) : (kn j).ok := by
  have z := zero_ok
  have u (n : Int) (h : 0 ≤ n ∧ n < 256) : U8 n := h
  have v (n : Int) (h : 0 ≤ n ∧ n < 10) : U64 n := ⟨h.1, by have := h.2; omega⟩
  match j with
  | 0 => exact ⟨z.len, z.id, z.peer, z.oc, z.bg, z.an, v 2 (by omega)⟩
  | 1 => exact ⟨z.len, z.id, z.peer, u 1 (by omega), v 3 (by omega), z.an, v 2 (by omega)⟩
  | _ + 2 => exact ⟨z.len, z.id, z.peer, u 1 (by omega), v 3 (by omega), v 2 (by omega), v 9 (by omega)⟩
theorem kn_may (j : Nat) : mayB (kn j) = false := by
  match j with
  | 0 => simp [kn, mayB, Rc.zero]
  | 1 => simp [kn, mayB, Rc.zero]
  | _ + 2 => simp [kn, mayB, Rc.zero]
def knL : List Value := flat [.agg (kn 0).cells.toArray, .agg (kn 1).cells.toArray, .agg (kn 2).cells.toArray]
theorem kn_at {j : Nat} (h : j < 3) : (knL.drop (j * 22)).take 22 = (kn j).cells := by
  match j, h with
  | 0, _ => rfl
  | 1, _ => rfl
  | 2, _ => rfl

theorem recKnown_any (w : World) (hw : OK w (fpL []) [] w) : Fn Try.prog 3 [] [] w (fun _ : Unit => True) (fun _ => .bool true) (fun _ => []) := by
  refine enterF Try.func3 rfl Try.ntmps3 rfl hw ?_
  refine WC.seq ?_
  refine WC.region ?_
  refine WL.y (Yl.assign rfl) rfl ?_ -- t0
  refine WL.nil ?_
  refine WC.seq ?_
  refine WC.seq ?_
  refine WC.region ?_
  refine WL.y (Yl.build rfl (cs := (kn 0).cells) (fun _ => by kernel_rfl)) rfl ?_ -- t7
  refine WL.y (Yl.build rfl (cs := (kn 1).cells) (fun _ => by kernel_rfl)) rfl ?_ -- t8
  refine WL.y (Yl.build rfl (cs := (kn 2).cells) (fun _ => by kernel_rfl)) rfl ?_ -- t9
  refine WL.to (To.buildSlice (vs := [.agg (kn 0).cells.toArray, .agg (kn 1).cells.toArray, .agg (kn 2).cells.toArray]) un27 zs26 rfl rfl (by simp [Value.cells, Rc.cells_len (kn_ok _).len]) (by decide) (by decide)) rfl ?_ -- t10
  intro b10
  refine WL.y (Yl.len un27 rfl) rfl ?_ -- t11
  refine WL.y (Yl.move rfl) rfl ?_ -- t12
  refine WL.nil ?_
  refine WC.block ?_
  refine WC.loop (α := Nat) (fun j => [(10, .slice (some ⟨b10, 0, none⟩) 3 3), (11, .int .i64 3), (12, .int .i64 (j : Int))]) (fun _ => [blkR b10 26 knL]) (fun j => j ≤ 3) (fun j => 3 - j) 0 (Nat.zero_le _) ⟨(by repeat (first | exact Sub.nil | refine Sub.cons rfl ?_)), _, (by repeat (first | exact TakeL.nil | (apply TakeL.cons; · repeat (first | exact Take1.head | apply Take1.tail))))⟩ ?_
  intro j hj
  have hkl := (kn_ok j).len
  refine WC.seq ?_
  refine WC.region ?_
  refine WL.y (Yl.lss rfl rfl) rfl ?_ -- t13
  refine WL.nil ?_
  refine WC.seq ?_
  refine WC.condD rfl (fun g13 => ?_) (fun g13 => ?_)
  · refine WC.skip ?_
    refine WC.seq ?_
    refine WC.block ?_
    refine WC.seq ?_
    refine WC.region ?_
    refine WL.y (Yl.index un27 sz26 rfl rfl (Reads.of (RdOf.blk (size := 22) (cs := knL) (cs' := knL) (Nat.le_refl _) (by unfold maxLen; omega) (leN rfl) rfl) (by repeat (first | exact Take1.head | apply Take1.tail))) rfl (by omega)) rfl ?_ -- t14
    refine WL.y (Yl.loadEN ag26 (by decide) rfl (Reads.of (RdOf.blk (size := 22) (cs := knL) (cs' := knL) (Nat.le_refl _) (by unfold maxLen; omega) (leN rfl) rfl) (by repeat (first | exact Take1.head | apply Take1.tail))) (by omega) (kn_at (by omega))) rfl ?_ -- t15
    refine WL.to (To.alloc (cs := Rc.zero.cells) zr26 rfl) rfl ?_ -- t2
    intro b2
    refine WL.sto (Sto.agg sz26 rfl rfl (by repeat (first | exact Take1.head | apply Take1.tail)) (Rc.ones _) (Rc.cells_len hkl) (by rfl) (Rc.all (r := Rc.zero) rfl (kn j).cells (Rc.cells_len hkl))) (fun _ h => nomatch h) ?_ -- st 1
    refine WL.nil ?_
    refine WC.seq ?_
    refine WC.region ?_
    refine WL.y (Yl.loadN ag26 rfl (by repeat (first | exact Take1.head | apply Take1.tail)) (leB (by rw [Rc.cells_len hkl]; omega)) (Rc.call hkl)) rfl ?_ -- t17
    refine WL.callC (xs := [.tmp 17]) (cap := []) rfl rfl en7 (by repeat (first | exact TakeL.nil | (apply TakeL.cons; · repeat (first | exact Take1.head | apply Take1.tail)))) (fun w hw => rput_no (kn j) (kn_ok j) (kn_may j) w hw.left.here) rfl ?_ -- t18 hailer/rec.Put
    rintro ⟨⟩ -
    refine WL.y (Yl.move rfl) rfl ?_ -- t16
    refine WL.y (Yl.extract rfl rfl) rfl ?_ -- t19
    refine WL.y (Yl.extract rfl rfl) rfl ?_ -- t20
    refine WL.y (Yl.assign rfl) rfl ?_ -- t3
    refine WL.y (Yl.assign rfl) rfl ?_ -- t4
    refine WL.nil ?_
    refine WC.seq ?_
    refine WC.region ?_
    refine WL.y (Yl.move rfl) rfl ?_ -- t21
    refine WL.y (Yl.neq rfl rfl) rfl ?_ -- t22
    refine WL.know (t := 22) (b' := false) rfl (by first | rfl | (simp; done) | (simp; omega)) ?_
    refine WL.nil ?_
    refine WC.condF rfl (by first | rfl | (simp; done) | (simp; omega)) ?_
    refine WC.skip ?_
    refine WC.region ?_
    refine WL.y (Yl.add rfl rfl (IntWalk.i64_in _ (by omega))) rfl ?_ -- t23
    refine WL.y (Yl.move rfl) rfl ?_ -- t12
    refine WL.nil ?_
    exact ⟨rfl, j + 1, by omega, by omega, (by repeat (first | exact Sub.nil | refine Sub.cons rfl ?_)), _, (by repeat (first | exact TakeL.nil | (apply TakeL.cons; · repeat (first | exact Take1.head | apply Take1.tail))))⟩
  · refine WC.exit ?_
    refine WC.seq ?_
    refine WC.region ?_
    refine WL.to (To.makeSlice (n := 42) un28 zb28_5 rfl rfl rfl (by omega) (by unfold maxLen; omega)) rfl ?_ -- t25
    intro b25
    refine WL.callC (xs := [.tmp 25]) (cap := []) rfl rfl en8 (by repeat (first | exact TakeL.nil | (apply TakeL.cons; · repeat (first | exact Take1.head | apply Take1.tail)))) (fun w hw => rtakeP_any (List.replicate 42 0) _ (fun x hx => by have := List.eq_of_mem_replicate hx; omega) (by simp) w ((hw.src (A := []) (RdOf.blk (size := 1) (cs := List.replicate 42 (.int .u8 0)) (cs' := ints .u8 (List.replicate 42 0)) (Nat.le_refl _) (by unfold maxLen; omega) (by simp) (by simp [ints])) (by repeat (first | exact Take1.head | apply Take1.tail))).len (by simp)) hw.left.here) rfl ?_ -- t26 hailer/rec.Take
    rintro ⟨⟩ -
    rw [recT_bad (bs := List.replicate 42 0) (by simp [goodB])]
    dsimp only
    refine WL.y (Yl.move rfl) rfl ?_ -- t24
    refine WL.y (Yl.extract rfl rfl) rfl ?_ -- t27
    refine WL.y (Yl.extract rfl rfl) rfl ?_ -- t28
    refine WL.to (To.alloc (cs := Rc.zero.cells) zr26 rfl) rfl ?_ -- t5
    intro b5
    refine WL.sto (Sto.agg sz26 rfl rfl (by repeat (first | exact Take1.head | apply Take1.tail)) (Rc.ones _) rfl (by rfl) (Rc.all (r := Rc.zero) rfl Rc.zero.cells rfl)) (fun _ h => nomatch h) ?_ -- st 2
    refine WL.y (Yl.assign rfl) rfl ?_ -- t6
    refine WL.nil ?_
    refine WC.seq ?_
    refine WC.region ?_
    refine WL.callC (xs := []) (cap := []) rfl rfl en9 (by repeat (first | exact TakeL.nil | (apply TakeL.cons; · repeat (first | exact Take1.head | apply Take1.tail)))) (fun w hw => works_any w hw.left.here) rfl ?_ -- t29 hailer/hailerlaw11.works
    rintro ⟨⟩ -
    refine WL.y (Yl.move rfl) rfl ?_ -- t30
    refine WL.know (t := 30) (b' := true) rfl (by first | rfl | (simp; done) | (simp; omega)) ?_
    refine WL.on rfl rfl ?_
    refine WL.y (Yl.move rfl) rfl ?_ -- t31
    refine WL.on rfl rfl ?_
    refine WL.y (Yl.eql rfl rfl) rfl ?_ -- t32
    refine WL.know (t := 32) (b' := true) rfl (by simp [errT]) ?_
    refine WL.y (Yl.pickT rfl rfl) rfl ?_ -- t33
    refine WL.y (Yl.assign rfl) rfl ?_ -- t0
    refine WL.nil ?_
    refine WC.ret ?_
    repeat (first | (with_reducible refine peelT ?_) | (with_reducible refine peelB ?_) | (with_reducible refine peelTX ?_) | (with_reducible refine peelBX ?_) | (with_reducible refine peelBN ?_) | (with_reducible refine peelBO rfl ?_))
    exact ret1 (.inr rfl) Try.results3 rfl fun w' h => ⟨(), trivial, rfl, h.sub (by repeat (first | exact TakeL.nil | (apply TakeL.cons; · repeat (first | exact Take1.head | apply Take1.tail))))⟩
end Go.Proofs.Ytppdggfdclchhaa
