/- Sorting rows of uint64: patterns broken, the pivot chosen: the walks. -/
import Derived.Test.YtklbmgfpnafdlaaSoFV
import Derived.Test.YtklbmgfpnafdlaaSoG
namespace Go.Proofs.Ytklbmgfpnafdlaa
open Go Go.RowKit Go.Sort

def othF (L M : Nat) (r : UInt64) : Nat := if (xorNext r).toNat &&& (M - 1) ≥ L then ((xorNext r).toNat &&& (M - 1)) - L else (xorNext r).toNat &&& (M - 1)
set_option maxHeartbeats 1600000 in
set_option maxRecDepth 100000 in
theorem brkV_any (v : Value) (n : Nat) (D : Array Int) (a L : Nat) (hD : D.size = n) (hn : n ≤ 1099511627776) (hb : a + L ≤ n) (w : World) (hw : OK w (fpL [ownR v 22 1 n (ints .u64 D.toList)]) [ownR v 22 1 n (ints .u64 D.toList)] w) :
    Fn Try.prog 74 [v, .int .i64 (a : Int), .int .i64 ((a + L : Nat) : Int)] [ownR v 22 1 n (ints .u64 D.toList)] w (fun _ : Unit => True) (fun _ => .tuple #[]) (fun _ => [ownR v 22 1 n (ints .u64 (breakPatterns D a (a + L)).toList)]) := by
  have hF := sl_form (hw.get (r := ownR v 22 1 n (ints .u64 D.toList)) .head)
  obtain ⟨M, hM⟩ : ∃ M, 1 <<< bitsLen L = M := ⟨_, rfl⟩
  obtain ⟨i0, hi0⟩ : ∃ i0, a + L / 4 * 2 - 1 = i0 := ⟨_, rfl⟩
  obtain ⟨T, hT⟩ : ∃ T, breakPatterns D a (a + L) = T := ⟨_, rfl⟩
  rw [hT]
  refine enterF Try.func74 rfl Try.ntmps74 rfl hw ?_
  refine WC.seq ?_
  refine WC.region ?_
  refine WL.y (Yl.move rfl) rfl ?_ -- t11
  refine WL.y (Yl.move rfl) rfl ?_ -- t12
  refine WL.y (Yl.sub rfl rfl (IntWalk.i64_in _ (by omega))) rfl ?_ -- t13
  refine WL.say (t := 13) (v' := .int .i64 (L : Int)) rfl (by (refine congrArg _ ?_; omega)) ?_
  refine WL.y (Yl.assign rfl) rfl ?_ -- t6
  refine WL.nil ?_
  refine WC.seq ?_
  refine WC.region ?_
  refine WL.y (Yl.move rfl) rfl ?_ -- t14
  refine WL.y (Yl.geq rfl rfl) rfl ?_ -- t15
  refine WL.nil ?_
  refine WC.condD rfl (fun g15 => ?_) (fun g15 => ?_)
  · refine WC.seq ?_
    have h8 : 8 ≤ L := by omega
    rw [breakPatterns_eq D a L h8, hM, hi0] at hT
    have hM2 : M ≤ 2 * L := by rw [← hM, Nat.one_shiftLeft]; exact two_pow_bitsLen_le (by omega)
    have hM1 : 1 ≤ M := by rw [← hM, Nat.one_shiftLeft]; exact Nat.one_le_two_pow
    have hL64 : (UInt64.ofNat L).toNat = L := by rw [UInt64.toNat_ofNat']; omega
    refine WC.region ?_
    refine WL.y (Yl.move rfl) rfl ?_ -- t16
    refine WL.y (Yl.conv un3 un145 rfl (show IntKind.u64.wrap (L : Int) = (L : Int) by rw [IntKind.wrap_u64]; omega)) rfl ?_ -- t17
    refine WL.to (To.alloc (cs := [.int .u64 0]) zr145 rfl) rfl ?_ -- t7
    intro b7
    refine WL.sto (Sto.one sz145 rfl rfl (by repeat (first | exact Take1.head | apply Take1.tail)) rfl (by rfl) (by rfl)) (fun _ h => nomatch h) ?_ -- st 1
    refine WL.nil ?_
    refine WC.seq ?_
    refine WC.region ?_
    refine WL.y (Yl.move rfl) rfl ?_ -- t18
    refine WL.callC (xs := [.tmp 18]) (cap := []) rfl rfl en84 (by repeat (first | exact TakeL.nil | (apply TakeL.cons; · repeat (first | exact Take1.head | apply Take1.tail)))) (fun w hw => npt_any L (by omega) w hw.left.here) rfl ?_ -- t19 slices.nextPowerOfTwo
    rintro ⟨⟩ -
    rw [hM]
    refine WL.y (Yl.assign rfl) rfl ?_ -- t8
    refine WL.nil ?_
    refine WC.seq ?_
    refine WC.region ?_
    refine WL.y (Yl.move rfl) rfl ?_ -- t20
    refine WL.y (Yl.move rfl) rfl ?_ -- t21
    refine WL.y (Yl.quo rfl rfl (by omega) (i64_quo (by omega) (by omega))) rfl ?_ -- t22
    refine WL.say (t := 22) (v' := .int .i64 ((L / 4 : Nat) : Int)) rfl (by (refine congrArg _ ?_; omega)) ?_
    refine WL.y (Yl.mul rfl rfl (IntWalk.i64_in _ (by omega))) rfl ?_ -- t23
    refine WL.say (t := 23) (v' := .int .i64 ((L / 4 * 2 : Nat) : Int)) rfl (by (refine congrArg _ ?_; omega)) ?_
    refine WL.y (Yl.add rfl rfl (IntWalk.i64_in _ (by omega))) rfl ?_ -- t24
    refine WL.say (t := 24) (v' := .int .i64 ((a + L / 4 * 2 : Nat) : Int)) rfl (by (refine congrArg _ ?_; omega)) ?_
    refine WL.y (Yl.sub rfl rfl (IntWalk.i64_in _ (by omega))) rfl ?_ -- t25
    refine WL.say (t := 25) (v' := .int .i64 (i0 : Int)) rfl (by (refine congrArg _ ?_; omega)) ?_
    refine WL.y (Yl.assign rfl) rfl ?_ -- t9
    refine WL.nil ?_
    refine WC.block ?_
    refine WC.loop (α := Nat × UInt64 × Array Int) (fun p => [(0, v), (1, .int .i64 (a : Int)), (6, .int .i64 (L : Int)), (7, .pointer (some ⟨b7, 0, none⟩)), (8, .int .u64 (M : Int)), (9, .int .i64 ((i0 + p.1 : Nat) : Int))]) (fun p => [ownR v 22 1 n (ints .u64 p.2.2.toList), blkR b7 145 [.int .u64 (p.2.1.toNat : Int)]]) (fun p => p.1 ≤ 3 ∧ p.2.2.size = n ∧ bpRest a L M i0 (3 - p.1) p.1 (p.2.1, p.2.2) = T) (fun p => 3 - p.1) (0, UInt64.ofNat L, D) ⟨by dsimp only; omega, hD, hT⟩ ⟨(by repeat (first | exact Sub.nil | refine Sub.cons rfl ?_)), _, (by dsimp only; rw [hL64]; exact (by repeat (first | exact TakeL.nil | (apply TakeL.cons; · repeat (first | exact Take1.head | apply Take1.tail)))))⟩ ?_
    rintro ⟨t, r, G⟩ ⟨ht, hG, hTG⟩
    dsimp only at ht hG hTG ⊢
    refine WC.seq ?_
    refine WC.seq ?_
    refine WC.region ?_
    refine WL.y (Yl.move rfl) rfl ?_ -- t26
    refine WL.y (Yl.move rfl) rfl ?_ -- t27
    refine WL.y (Yl.move rfl) rfl ?_ -- t28
    refine WL.y (Yl.quo rfl rfl (by omega) (i64_quo (by omega) (by omega))) rfl ?_ -- t29
    refine WL.say (t := 29) (v' := .int .i64 ((L / 4 : Nat) : Int)) rfl (by (refine congrArg _ ?_; omega)) ?_
    refine WL.y (Yl.mul rfl rfl (IntWalk.i64_in _ (by omega))) rfl ?_ -- t30
    refine WL.say (t := 30) (v' := .int .i64 ((L / 4 * 2 : Nat) : Int)) rfl (by (refine congrArg _ ?_; omega)) ?_
    refine WL.y (Yl.add rfl rfl (IntWalk.i64_in _ (by omega))) rfl ?_ -- t31
    refine WL.say (t := 31) (v' := .int .i64 ((a + L / 4 * 2 : Nat) : Int)) rfl (by (refine congrArg _ ?_; omega)) ?_
    refine WL.y (Yl.add rfl rfl (IntWalk.i64_in _ (by omega))) rfl ?_ -- t32
    refine WL.say (t := 32) (v' := .int .i64 ((a + L / 4 * 2 + 1 : Nat) : Int)) rfl (by (refine congrArg _ ?_; omega)) ?_
    refine WL.y (Yl.leq rfl rfl) rfl ?_ -- t33
    refine WL.nil ?_
    refine WC.condD rfl (fun g33 => ?_) (fun g33 => ?_)
    · refine WC.skip ?_
      refine WC.seq ?_
      refine WC.block ?_
      refine WC.seq ?_
      have ht3 : t < 3 := by omega
      have hrl : r.toNat < 18446744073709551616 := r.toNat_lt
      have hxl : (xorNext r).toNat < 18446744073709551616 := (xorNext r).toNat_lt
      rw [bp_step a L M i0 t r G (othF L M r) ht3 rfl] at hTG
      have hol : (xorNext r).toNat &&& (M - 1) ≤ M - 1 := Nat.and_le_right
      have hoF : othF L M r = if (xorNext r).toNat &&& (M - 1) ≥ L then ((xorNext r).toNat &&& (M - 1)) - L else (xorNext r).toNat &&& (M - 1) := rfl
      have hand := bits_and_u64_nat (xorNext r).toNat (M - 1) hxl (by omega)
      obtain ⟨O, hO⟩ : ∃ O, (xorNext r).toNat &&& (M - 1) = O := ⟨_, rfl⟩
      rw [hO] at hol hoF hand
      obtain ⟨o, ho⟩ : ∃ o, othF L M r = o := ⟨_, rfl⟩
      rw [ho] at hoF hTG
      refine WC.region ?_
      refine WL.callC (xs := [.tmp 7]) (cap := []) rfl rfl en85 (by repeat (first | exact TakeL.nil | (apply TakeL.cons; · repeat (first | exact Take1.head | apply Take1.tail)))) (fun w hw => xor_any b7 r.toNat hrl w hw.left.here) rfl ?_ -- t36 (*slices.xorshift).Next
      rintro ⟨⟩ -
      rw [← xorNext_toNat]
      dsimp only [List.cons_append, List.nil_append]
      refine WL.y (Yl.move rfl) rfl ?_ -- t37
      refine WL.y (Yl.sub rfl rfl rfl) rfl ?_ -- t38
      refine WL.say (t := 38) (v' := .int .u64 ((M - 1 : Nat) : Int)) rfl (by (refine congrArg _ ?_; rw [IntKind.wrap_u64]; omega)) ?_
      refine WL.y (Yl.and rfl rfl) rfl ?_ -- t39
      refine WL.say (t := 39) (v' := .int .u64 (O : Int)) rfl (by rw [hand]) ?_
      refine WL.y (Yl.conv un135 un3 rfl (IntWalk.i64_in _ (by omega))) rfl ?_ -- t40
      refine WL.y (Yl.assign rfl) rfl ?_ -- t10
      refine WL.nil ?_
      refine WC.midX (α := Unit) (fun _ => [(0, v), (1, .int .i64 (a : Int)), (6, .int .i64 (L : Int)), (7, .pointer (some ⟨b7, 0, none⟩)), (8, .int .u64 (M : Int)), (9, .int .i64 ((i0 + t : Nat) : Int)), (10, .int .i64 (o : Int))]) (fun _ => [ownR v 22 1 n (ints .u64 G.toList), blkR b7 145 [.int .u64 ((xorNext r).toNat : Int)]]) (fun _ => True) ?_ ?_
      · refine WC.seq ?_
        refine WC.region ?_
        refine WL.y (Yl.move rfl) rfl ?_ -- t41
        refine WL.y (Yl.move rfl) rfl ?_ -- t42
        refine WL.y (Yl.geq rfl rfl) rfl ?_ -- t43
        refine WL.nil ?_
        refine WC.condD rfl (fun g43 => ?_) (fun g43 => ?_)
        · refine WC.region ?_
          refine WL.y (Yl.move rfl) rfl ?_ -- t44
          refine WL.y (Yl.move rfl) rfl ?_ -- t45
          refine WL.y (Yl.sub rfl rfl (IntWalk.i64_in _ (by omega))) rfl ?_ -- t46
          refine WL.say (t := 46) (v' := .int .i64 (o : Int)) rfl (by (have h2 : L ≤ O := (by omega); rw [if_pos h2] at hoF; refine congrArg _ ?_; omega)) ?_
          refine WL.y (Yl.assign rfl) rfl ?_ -- t10
          refine WL.nil ?_
          exact ⟨rfl, (), trivial, (by repeat (first | exact Sub.nil | refine Sub.cons rfl ?_)), _, (by repeat (first | exact TakeL.nil | (apply TakeL.cons; · repeat (first | exact Take1.head | apply Take1.tail))))⟩
        · refine WC.skip ?_
          have h2 : ¬ L ≤ O := by omega
          rw [if_neg h2] at hoF
          rw [hoF]
          exact ⟨rfl, (), trivial, (by repeat (first | exact Sub.nil | refine Sub.cons rfl ?_)), _, (by repeat (first | exact TakeL.nil | (apply TakeL.cons; · repeat (first | exact Take1.head | apply Take1.tail))))⟩
      · rintro ⟨⟩ -
        have hoL : o < L := by
          rw [hoF]
          split <;> omega
        refine WC.drawAny (Hs := []) mixed (by kernel_rfl) ⟨_, (by repeat (first | exact TakeL.nil | (apply TakeL.cons; · repeat (first | exact Take1.head | apply Take1.tail))))⟩ ?_
        refine WD.take 0 rfl (by kernel_rfl) (by kernel_rfl) (by kernel_rfl) rfl rfl (Yl.move rfl) rfl ?_ -- t47
        refine WD.take 1 rfl (by kernel_rfl) (by kernel_rfl) (by kernel_rfl) rfl rfl (Yl.move rfl) rfl ?_ -- t48
        refine WD.take 2 rfl (by kernel_rfl) (by kernel_rfl) (by kernel_rfl) rfl rfl (Yl.move rfl) rfl ?_ -- t49
        refine WD.take 3 rfl (by kernel_rfl) (by kernel_rfl) (by kernel_rfl) rfl rfl (Yl.move rfl) rfl ?_ -- t50
        refine WD.take 4 rfl (by kernel_rfl) (by kernel_rfl) (by kernel_rfl) rfl rfl (Yl.move rfl) rfl ?_ -- t51
        refine WD.take 5 rfl (by kernel_rfl) (by kernel_rfl) (by kernel_rfl) rfl rfl (Yl.add rfl rfl (IntWalk.i64_in _ (by omega))) rfl ?_ -- t52
        refine WD.say (t := 52) (v' := .int .i64 ((a + o : Nat) : Int)) rfl (by (refine congrArg _ ?_; omega)) ?_
        refine WD.take 6 rfl (by kernel_rfl) (by kernel_rfl) (by kernel_rfl) rfl rfl (Yl.move rfl) rfl ?_ -- t53
        refine WD.take 7 rfl (by kernel_rfl) (by kernel_rfl) (by kernel_rfl) rfl rfl (Yl.move rfl) rfl ?_ -- t54
        refine WD.take 8 rfl (by kernel_rfl) (by kernel_rfl) (by kernel_rfl) rfl rfl (Yl.move rfl) rfl ?_ -- t55
        refine WD.take 9 rfl (by kernel_rfl) (by kernel_rfl) (by kernel_rfl) rfl rfl (Yl.add rfl rfl (IntWalk.i64_in _ (by omega))) rfl ?_ -- t56
        refine WD.say (t := 56) (v' := .int .i64 ((a + o : Nat) : Int)) rfl (by (refine congrArg _ ?_; omega)) ?_
        refine WD.take 10 rfl (by kernel_rfl) (by kernel_rfl) (by kernel_rfl) rfl rfl (Yl.indexF un105 sz22 rfl rfl hF rfl (by omega)) rfl ?_
        refine WD.take 12 rfl (by kernel_rfl) (by kernel_rfl) (by kernel_rfl) rfl rfl (Yl.move rfl) rfl ?_ -- t59
        refine WD.take 13 rfl (by kernel_rfl) (by kernel_rfl) (by kernel_rfl) rfl rfl (Yl.move rfl) rfl ?_ -- t60
        refine WD.take 14 rfl (by kernel_rfl) (by kernel_rfl) (by kernel_rfl) rfl rfl (Yl.indexF un105 sz22 rfl rfl hF rfl (by omega)) rfl ?_
        refine WD.two 11 15 (by kernel_rfl) ?_ ?_
        · refine WO.y rfl rfl .no (Yl.loadE on22 rfl (Reads.own (by repeat (first | exact Take1.head | apply Take1.tail))) (so_getV (by omega))) rfl ?_
          refine WD.one 15 (by kernel_rfl) ?_
          refine WO.y rfl rfl .no (Yl.loadE on22 rfl (Reads.own (by repeat (first | exact Take1.head | apply Take1.tail))) (so_getV (by omega))) rfl ?_
          refine WD.take 16 rfl (by kernel_rfl) (by kernel_rfl) (by kernel_rfl) rfl rfl (Yl.indexF un105 sz22 rfl rfl hF rfl (by omega)) rfl ?_
          refine WD.one 17 (by kernel_rfl) ?_
          refine WO.sto rfl rfl .no (Sto.elem (j := i0 + t) sz22 rfl rfl (by repeat (first | exact Take1.head | apply Take1.tail)) rfl (by omega) rfl) ⟨_, (by repeat (first | exact TakeL.nil | (apply TakeL.cons; · repeat (first | exact Take1.head | apply Take1.tail))))⟩ ?_
          refine WD.take 18 rfl (by kernel_rfl) (by kernel_rfl) (by kernel_rfl) rfl rfl (Yl.indexF un105 sz22 rfl rfl hF rfl (by omega)) rfl ?_
          refine WD.one 19 (by kernel_rfl) ?_
          refine WO.sto rfl rfl .no (Sto.elem (j := a + o) (cs' := ints .u64 (swp G (i0 + t) (a + o)).toList) sz22 rfl rfl (by repeat (first | exact Take1.head | apply Take1.tail)) rfl (by omega) (so_swpV G (i0 + t) (a + o))) ⟨_, (by repeat (first | exact TakeL.nil | (apply TakeL.cons; · repeat (first | exact Take1.head | apply Take1.tail))))⟩ ?_
          refine WD.done (by kernel_rfl) ?_
          refine WC.region ?_
          refine WL.y (Yl.move rfl) rfl ?_ -- t34
          refine WL.y (Yl.add rfl rfl (IntWalk.i64_in _ (by omega))) rfl ?_ -- t35
          refine WL.say (t := 35) (v' := .int .i64 ((i0 + (t + 1) : Nat) : Int)) rfl (by (refine congrArg _ ?_; omega)) ?_
          refine WL.y (Yl.assign rfl) rfl ?_ -- t9
          refine WL.nil ?_
          exact ⟨rfl, (t + 1, xorNext r, swp G (i0 + t) (a + o)), ⟨by dsimp only; omega, by dsimp only; rw [swp_size]; exact hG, hTG⟩, by dsimp only; omega, (by repeat (first | exact Sub.nil | refine Sub.cons rfl ?_)), _, (by repeat (first | exact TakeL.nil | (apply TakeL.cons; · repeat (first | exact Take1.head | apply Take1.tail))))⟩
        · refine WO.y rfl rfl .no (Yl.loadE on22 rfl (Reads.own (by repeat (first | exact Take1.head | apply Take1.tail))) (so_getV (by omega))) rfl ?_
          refine WD.one 11 (by kernel_rfl) ?_
          refine WO.y rfl rfl .no (Yl.loadE on22 rfl (Reads.own (by repeat (first | exact Take1.head | apply Take1.tail))) (so_getV (by omega))) rfl ?_
          refine WD.take 16 rfl (by kernel_rfl) (by kernel_rfl) (by kernel_rfl) rfl rfl (Yl.indexF un105 sz22 rfl rfl hF rfl (by omega)) rfl ?_
          refine WD.one 17 (by kernel_rfl) ?_
          refine WO.sto rfl rfl .no (Sto.elem (j := i0 + t) sz22 rfl rfl (by repeat (first | exact Take1.head | apply Take1.tail)) rfl (by omega) rfl) ⟨_, (by repeat (first | exact TakeL.nil | (apply TakeL.cons; · repeat (first | exact Take1.head | apply Take1.tail))))⟩ ?_
          refine WD.take 18 rfl (by kernel_rfl) (by kernel_rfl) (by kernel_rfl) rfl rfl (Yl.indexF un105 sz22 rfl rfl hF rfl (by omega)) rfl ?_
          refine WD.one 19 (by kernel_rfl) ?_
          refine WO.sto rfl rfl .no (Sto.elem (j := a + o) (cs' := ints .u64 (swp G (i0 + t) (a + o)).toList) sz22 rfl rfl (by repeat (first | exact Take1.head | apply Take1.tail)) rfl (by omega) (so_swpV G (i0 + t) (a + o))) ⟨_, (by repeat (first | exact TakeL.nil | (apply TakeL.cons; · repeat (first | exact Take1.head | apply Take1.tail))))⟩ ?_
          refine WD.done (by kernel_rfl) ?_
          refine WC.region ?_
          refine WL.y (Yl.move rfl) rfl ?_ -- t34
          refine WL.y (Yl.add rfl rfl (IntWalk.i64_in _ (by omega))) rfl ?_ -- t35
          refine WL.say (t := 35) (v' := .int .i64 ((i0 + (t + 1) : Nat) : Int)) rfl (by (refine congrArg _ ?_; omega)) ?_
          refine WL.y (Yl.assign rfl) rfl ?_ -- t9
          refine WL.nil ?_
          exact ⟨rfl, (t + 1, xorNext r, swp G (i0 + t) (a + o)), ⟨by dsimp only; omega, by dsimp only; rw [swp_size]; exact hG, hTG⟩, by dsimp only; omega, (by repeat (first | exact Sub.nil | refine Sub.cons rfl ?_)), _, (by repeat (first | exact TakeL.nil | (apply TakeL.cons; · repeat (first | exact Take1.head | apply Take1.tail))))⟩
    · refine WC.exit ?_
      repeat (first | (with_reducible refine peelT ?_) | (with_reducible refine peelB ?_) | (with_reducible refine peelTX ?_) | (with_reducible refine peelBX ?_) | (with_reducible refine peelBN ?_) | (with_reducible refine peelBO rfl ?_))
      have ht3 : t = 3 := by omega
      subst ht3
      have hGT : G = T := hTG
      subst hGT
      exact ret0 (.inl rfl) Try.results74 fun w' h => ⟨(), trivial, rfl, h.sub (by repeat (first | exact TakeL.nil | (apply TakeL.cons; · repeat (first | exact Take1.head | apply Take1.tail))))⟩
  · refine WC.skip ?_
    repeat (first | (with_reducible refine peelT ?_) | (with_reducible refine peelB ?_) | (with_reducible refine peelTX ?_) | (with_reducible refine peelBX ?_) | (with_reducible refine peelBN ?_) | (with_reducible refine peelBO rfl ?_))
    have h8 : ¬ a + L - a ≥ 8 := by omega
    have hDT : D = T := by rw [← hT]; unfold breakPatterns; rw [if_neg h8]
    subst hDT
    exact ret0 (.inl rfl) Try.results74 fun w' h => ⟨(), trivial, rfl, h.sub (by repeat (first | exact TakeL.nil | (apply TakeL.cons; · repeat (first | exact Take1.head | apply Take1.tail))))⟩
end Go.Proofs.Ytklbmgfpnafdlaa

namespace Go.Proofs.Ytklbmgfpnafdlaa
open Go Go.RowKit Go.Sort

def hN : Hint → Int
  | .unknown => 0
  | .increasing => 1
  | .decreasing => 2
def cpR (D : Array Int) (a L : Nat) : Nat × Nat :=
  if L ≥ 8 then
    if L ≥ 50 then
      median ltInt D (medianAdjacent ltInt D (a + L / 4 * 1) 0).1 (medianAdjacent ltInt D (a + L / 4 * 2) (medianAdjacent ltInt D (a + L / 4 * 1) 0).2).1 (medianAdjacent ltInt D (a + L / 4 * 3) (medianAdjacent ltInt D (a + L / 4 * 2) (medianAdjacent ltInt D (a + L / 4 * 1) 0).2).2).1 (medianAdjacent ltInt D (a + L / 4 * 3) (medianAdjacent ltInt D (a + L / 4 * 2) (medianAdjacent ltInt D (a + L / 4 * 1) 0).2).2).2
    else median ltInt D (a + L / 4 * 1) (a + L / 4 * 2) (a + L / 4 * 3) 0
  else (a + L / 4 * 2, 0)
def hintF (s : Nat) : Hint := if s = 0 then .increasing else if s = 12 then .decreasing else .unknown
theorem cp_eq (D : Array Int) (a L : Nat) : choosePivot ltInt D a (a + L) = ((cpR D a L).1, hintF (cpR D a L).2) := by
  unfold choosePivot cpR hintF
  simp only [Nat.add_sub_cancel_left]

set_option maxHeartbeats 1600000 in
set_option maxRecDepth 100000 in
theorem choV_any (v : Value) (n : Nat) (D : Array Int) (a L : Nat) (hD : D.size = n) (hn : n ≤ 1099511627776) (hb : a + L ≤ n) (w : World) (hw : OK w (fpL [ownR v 22 1 n (ints .u64 D.toList)]) [ownR v 22 1 n (ints .u64 D.toList)] w) :
    Fn Try.prog 75 [v, .int .i64 (a : Int), .int .i64 ((a + L : Nat) : Int)] [ownR v 22 1 n (ints .u64 D.toList)] w (fun _ : Unit => True) (fun _ => .tuple #[.int .i64 ((choosePivot ltInt D a (a + L)).1 : Int), .int .i64 (hN (choosePivot ltInt D a (a + L)).2)]) (fun _ => [ownR v 22 1 n (ints .u64 D.toList)]) := by
  rw [cp_eq]
  dsimp only
  obtain ⟨R, hR⟩ : ∃ R, cpR D a L = R := ⟨_, rfl⟩
  rw [hR]
  refine enterF Try.func75 rfl Try.ntmps75 rfl hw ?_
  refine WC.seq ?_
  refine WC.region ?_
  refine WL.y (Yl.assign rfl) rfl ?_ -- t6
  refine WL.y (Yl.assign rfl) rfl ?_ -- t7
  refine WL.nil ?_
  refine WC.seq ?_
  refine WC.region ?_
  refine WL.y (Yl.move rfl) rfl ?_ -- t13
  refine WL.y (Yl.move rfl) rfl ?_ -- t14
  refine WL.y (Yl.sub rfl rfl (IntWalk.i64_in _ (by omega))) rfl ?_ -- t15
  refine WL.say (t := 15) (v' := .int .i64 (L : Int)) rfl (by (refine congrArg _ ?_; omega)) ?_
  refine WL.y (Yl.assign rfl) rfl ?_ -- t8
  refine WL.nil ?_
  refine WC.seq ?_
  refine WC.region ?_
  refine WL.to (To.alloc (cs := [.int .i64 0]) zr3 rfl) rfl ?_ -- t9
  intro b9
  refine WL.nil ?_
  refine WC.seq ?_
  refine WC.region ?_
  refine WL.y (Yl.move rfl) rfl ?_ -- t16
  refine WL.y (Yl.move rfl) rfl ?_ -- t17
  refine WL.y (Yl.quo rfl rfl (by omega) (i64_quo (by omega) (by omega))) rfl ?_ -- t18
  refine WL.say (t := 18) (v' := .int .i64 ((L / 4 : Nat) : Int)) rfl (by (refine congrArg _ ?_; omega)) ?_
  refine WL.y (Yl.mul rfl rfl (IntWalk.i64_in _ (by omega))) rfl ?_ -- t19
  refine WL.y (Yl.add rfl rfl (IntWalk.i64_in _ (by omega))) rfl ?_ -- t20
  refine WL.say (t := 20) (v' := .int .i64 ((a + L / 4 * 1 : Nat) : Int)) rfl (by (refine congrArg _ ?_; omega)) ?_
  refine WL.y (Yl.assign rfl) rfl ?_ -- t10
  refine WL.nil ?_
  refine WC.seq ?_
  refine WC.region ?_
  refine WL.y (Yl.move rfl) rfl ?_ -- t21
  refine WL.y (Yl.move rfl) rfl ?_ -- t22
  refine WL.y (Yl.quo rfl rfl (by omega) (i64_quo (by omega) (by omega))) rfl ?_ -- t23
  refine WL.say (t := 23) (v' := .int .i64 ((L / 4 : Nat) : Int)) rfl (by (refine congrArg _ ?_; omega)) ?_
  refine WL.y (Yl.mul rfl rfl (IntWalk.i64_in _ (by omega))) rfl ?_ -- t24
  refine WL.y (Yl.add rfl rfl (IntWalk.i64_in _ (by omega))) rfl ?_ -- t25
  refine WL.say (t := 25) (v' := .int .i64 ((a + L / 4 * 2 : Nat) : Int)) rfl (by (refine congrArg _ ?_; omega)) ?_
  refine WL.y (Yl.assign rfl) rfl ?_ -- t11
  refine WL.nil ?_
  refine WC.seq ?_
  refine WC.region ?_
  refine WL.y (Yl.move rfl) rfl ?_ -- t26
  refine WL.y (Yl.move rfl) rfl ?_ -- t27
  refine WL.y (Yl.quo rfl rfl (by omega) (i64_quo (by omega) (by omega))) rfl ?_ -- t28
  refine WL.say (t := 28) (v' := .int .i64 ((L / 4 : Nat) : Int)) rfl (by (refine congrArg _ ?_; omega)) ?_
  refine WL.y (Yl.mul rfl rfl (IntWalk.i64_in _ (by omega))) rfl ?_ -- t29
  refine WL.y (Yl.add rfl rfl (IntWalk.i64_in _ (by omega))) rfl ?_ -- t30
  refine WL.say (t := 30) (v' := .int .i64 ((a + L / 4 * 3 : Nat) : Int)) rfl (by (refine congrArg _ ?_; omega)) ?_
  refine WL.y (Yl.assign rfl) rfl ?_ -- t12
  refine WL.nil ?_
  refine WC.midX (α := Unit) (fun _ => [(9, .pointer (some ⟨b9, 0, none⟩)), (11, .int .i64 (R.1 : Int))]) (fun _ => [ownR v 22 1 n (ints .u64 D.toList), blkR b9 3 [.int .i64 (R.2 : Int)]]) (fun _ => True) ?_ ?_
  · refine WC.seq ?_
    refine WC.region ?_
    refine WL.y (Yl.move rfl) rfl ?_ -- t31
    refine WL.y (Yl.geq rfl rfl) rfl ?_ -- t32
    refine WL.nil ?_
    refine WC.condD rfl (fun g32 => ?_) (fun g32 => ?_)
    · refine WC.seq ?_
      refine WC.seq ?_
      refine WC.region ?_
      refine WL.y (Yl.move rfl) rfl ?_ -- t33
      refine WL.y (Yl.geq rfl rfl) rfl ?_ -- t34
      refine WL.nil ?_
      refine WC.condD rfl (fun g34 => ?_) (fun g34 => ?_)
      · refine WC.seq ?_
        have h50 : 50 ≤ L := by omega
        have hRe : R = median ltInt D (medianAdjacent ltInt D (a + L / 4 * 1) 0).1 (medianAdjacent ltInt D (a + L / 4 * 2) (medianAdjacent ltInt D (a + L / 4 * 1) 0).2).1 (medianAdjacent ltInt D (a + L / 4 * 3) (medianAdjacent ltInt D (a + L / 4 * 2) (medianAdjacent ltInt D (a + L / 4 * 1) 0).2).2).1 (medianAdjacent ltInt D (a + L / 4 * 3) (medianAdjacent ltInt D (a + L / 4 * 2) (medianAdjacent ltInt D (a + L / 4 * 1) 0).2).2).2 := by
          rw [← hR]
          unfold cpR
          rw [if_pos (by omega), if_pos h50]
        have m1 : (medianAdjacent ltInt D (a + L / 4 * 1) 0).1 < n ∧ (medianAdjacent ltInt D (a + L / 4 * 1) 0).2 ≤ 0 + 3 := median_in (by omega) (by omega) (by omega)
        obtain ⟨r1, hr1⟩ : ∃ r, medianAdjacent ltInt D (a + L / 4 * 1) 0 = r := ⟨_, rfl⟩
        rw [hr1] at hRe m1
        have m2 : (medianAdjacent ltInt D (a + L / 4 * 2) r1.2).1 < n ∧ (medianAdjacent ltInt D (a + L / 4 * 2) r1.2).2 ≤ r1.2 + 3 := median_in (by omega) (by omega) (by omega)
        obtain ⟨r2, hr2⟩ : ∃ r, medianAdjacent ltInt D (a + L / 4 * 2) r1.2 = r := ⟨_, rfl⟩
        rw [hr2] at hRe m2
        have m3 : (medianAdjacent ltInt D (a + L / 4 * 3) r2.2).1 < n ∧ (medianAdjacent ltInt D (a + L / 4 * 3) r2.2).2 ≤ r2.2 + 3 := median_in (by omega) (by omega) (by omega)
        obtain ⟨r3, hr3⟩ : ∃ r, medianAdjacent ltInt D (a + L / 4 * 3) r2.2 = r := ⟨_, rfl⟩
        rw [hr3] at hRe m3
        refine WC.region ?_
        refine WL.y (Yl.move rfl) rfl ?_ -- t35
        refine WL.y (Yl.move rfl) rfl ?_ -- t36
        refine WL.callC (xs := [.tmp 35, .tmp 36, .tmp 9]) (cap := []) rfl rfl en86 (by repeat (first | exact TakeL.nil | (apply TakeL.cons; · repeat (first | exact Take1.head | apply Take1.tail)))) (fun w hw => medAV_any v n D (a + L / 4 * 1) 0 b9 hD hn (by omega) (by omega) w hw.left.here) rfl ?_ -- t37 slices.medianAdjacentOrdered[uint64]
        rintro ⟨⟩ -
        rw [hr1]
        dsimp only [List.cons_append, List.nil_append]
        refine WL.y (Yl.assign rfl) rfl ?_ -- t10
        refine WL.nil ?_
        refine WC.seq ?_
        refine WC.region ?_
        refine WL.y (Yl.move rfl) rfl ?_ -- t38
        refine WL.y (Yl.move rfl) rfl ?_ -- t39
        refine WL.callC (xs := [.tmp 38, .tmp 39, .tmp 9]) (cap := []) rfl rfl en86 (by repeat (first | exact TakeL.nil | (apply TakeL.cons; · repeat (first | exact Take1.head | apply Take1.tail)))) (fun w hw => medAV_any v n D (a + L / 4 * 2) r1.2 b9 hD hn (by omega) (by omega) w hw.left.here) rfl ?_ -- t40 slices.medianAdjacentOrdered[uint64]
        rintro ⟨⟩ -
        rw [hr2]
        dsimp only [List.cons_append, List.nil_append]
        refine WL.y (Yl.assign rfl) rfl ?_ -- t11
        refine WL.nil ?_
        refine WC.region ?_
        refine WL.y (Yl.move rfl) rfl ?_ -- t41
        refine WL.y (Yl.move rfl) rfl ?_ -- t42
        refine WL.callC (xs := [.tmp 41, .tmp 42, .tmp 9]) (cap := []) rfl rfl en86 (by repeat (first | exact TakeL.nil | (apply TakeL.cons; · repeat (first | exact Take1.head | apply Take1.tail)))) (fun w hw => medAV_any v n D (a + L / 4 * 3) r2.2 b9 hD hn (by omega) (by omega) w hw.left.here) rfl ?_ -- t43 slices.medianAdjacentOrdered[uint64]
        rintro ⟨⟩ -
        rw [hr3]
        dsimp only [List.cons_append, List.nil_append]
        refine WL.y (Yl.assign rfl) rfl ?_ -- t12
        refine WL.nil ?_
        refine WC.region ?_
        refine WL.y (Yl.move rfl) rfl ?_ -- t44
        refine WL.y (Yl.move rfl) rfl ?_ -- t45
        refine WL.y (Yl.move rfl) rfl ?_ -- t46
        refine WL.y (Yl.move rfl) rfl ?_ -- t47
        refine WL.callC (xs := [.tmp 44, .tmp 45, .tmp 46, .tmp 47, .tmp 9]) (cap := []) rfl rfl en87 (by repeat (first | exact TakeL.nil | (apply TakeL.cons; · repeat (first | exact Take1.head | apply Take1.tail)))) (fun w hw => medV_any v n D r1.1 r2.1 r3.1 r3.2 b9 hD m1.1 m2.1 m3.1 (by omega) w hw.left.here) rfl ?_ -- t48 slices.medianOrdered[uint64]
        rintro ⟨⟩ -
        rw [← hRe]
        dsimp only [List.cons_append, List.nil_append]
        refine WL.y (Yl.assign rfl) rfl ?_ -- t11
        refine WL.nil ?_
        exact ⟨rfl, (), trivial, (by repeat (first | exact Sub.nil | refine Sub.cons rfl ?_)), _, (by repeat (first | exact TakeL.nil | (apply TakeL.cons; · repeat (first | exact Take1.head | apply Take1.tail))))⟩
      · refine WC.skip ?_
        have hRe : R = median ltInt D (a + L / 4 * 1) (a + L / 4 * 2) (a + L / 4 * 3) 0 := by
          rw [← hR]
          unfold cpR
          rw [if_pos (by omega), if_neg (by omega)]
        refine WC.region ?_
        refine WL.y (Yl.move rfl) rfl ?_ -- t44
        refine WL.y (Yl.move rfl) rfl ?_ -- t45
        refine WL.y (Yl.move rfl) rfl ?_ -- t46
        refine WL.y (Yl.move rfl) rfl ?_ -- t47
        refine WL.callC (xs := [.tmp 44, .tmp 45, .tmp 46, .tmp 47, .tmp 9]) (cap := []) rfl rfl en87 (by repeat (first | exact TakeL.nil | (apply TakeL.cons; · repeat (first | exact Take1.head | apply Take1.tail)))) (fun w hw => medV_any v n D (a + L / 4 * 1) (a + L / 4 * 2) (a + L / 4 * 3) 0 b9 hD (by omega) (by omega) (by omega) (by omega) w hw.left.here) rfl ?_ -- t48 slices.medianOrdered[uint64]
        rintro ⟨⟩ -
        rw [← hRe]
        dsimp only [List.cons_append, List.nil_append]
        refine WL.y (Yl.assign rfl) rfl ?_ -- t11
        refine WL.nil ?_
        exact ⟨rfl, (), trivial, (by repeat (first | exact Sub.nil | refine Sub.cons rfl ?_)), _, (by repeat (first | exact TakeL.nil | (apply TakeL.cons; · repeat (first | exact Take1.head | apply Take1.tail))))⟩
    · refine WC.skip ?_
      have hRe : R = (a + L / 4 * 2, 0) := by
        rw [← hR]
        unfold cpR
        rw [if_neg (by omega)]
      rw [hRe]
      exact ⟨rfl, (), trivial, (by repeat (first | exact Sub.nil | refine Sub.cons rfl ?_)), _, (by repeat (first | exact TakeL.nil | (apply TakeL.cons; · repeat (first | exact Take1.head | apply Take1.tail))))⟩
  · rintro ⟨⟩ -
    refine WC.seq ?_
    refine WC.region ?_
    refine WL.y (Yl.load on3 rfl (by repeat (first | exact Take1.head | apply Take1.tail)) (by rfl)) rfl ?_ -- t49
    refine WL.nil ?_
    refine WC.block ?_
    refine WC.seq ?_
    refine WC.region ?_
    refine WL.y (Yl.eql rfl rfl) rfl ?_ -- t52
    refine WL.y (Yl.assign rfl) rfl ?_ -- t51
    refine WL.nil ?_
    refine WC.cond rfl (fun g51 => ?_) (fun g51 => ?_)
    · refine WC.seq ?_
      refine WC.region ?_
      refine WL.y (Yl.move rfl) rfl ?_ -- t53
      refine WL.y (Yl.assign rfl) rfl ?_ -- t6
      refine WL.y (Yl.assign rfl) rfl ?_ -- t7
      refine WL.nil ?_
      refine WC.ret ?_
      repeat (first | (with_reducible refine peelT ?_) | (with_reducible refine peelB ?_) | (with_reducible refine peelTX ?_) | (with_reducible refine peelBX ?_) | (with_reducible refine peelBN ?_) | (with_reducible refine peelBO rfl ?_))
      have h0 : R.2 = 0 := by have := of_decide_eq_true g51; omega
      exact ret2 (.inr rfl) Try.results75 rfl rfl fun w' h => ⟨(), trivial, by unfold hintF; rw [if_pos h0]; rfl, h.sub (by repeat (first | exact TakeL.nil | (apply TakeL.cons; · repeat (first | exact Take1.head | apply Take1.tail))))⟩
    · refine WC.seq ?_
      refine WC.region ?_
      refine WL.y (Yl.eql rfl rfl) rfl ?_ -- t55
      refine WL.y (Yl.assign rfl) rfl ?_ -- t54
      refine WL.nil ?_
      refine WC.cond rfl (fun g54 => ?_) (fun g54 => ?_)
      · refine WC.seq ?_
        refine WC.region ?_
        refine WL.y (Yl.move rfl) rfl ?_ -- t56
        refine WL.y (Yl.assign rfl) rfl ?_ -- t6
        refine WL.y (Yl.assign rfl) rfl ?_ -- t7
        refine WL.nil ?_
        refine WC.ret ?_
        repeat (first | (with_reducible refine peelT ?_) | (with_reducible refine peelB ?_) | (with_reducible refine peelTX ?_) | (with_reducible refine peelBX ?_) | (with_reducible refine peelBN ?_) | (with_reducible refine peelBO rfl ?_))
        have h0 : ¬ R.2 = 0 := by have := of_decide_eq_false g51; omega
        have h1 : R.2 = 12 := by have := of_decide_eq_true g54; omega
        exact ret2 (.inr rfl) Try.results75 rfl rfl fun w' h => ⟨(), trivial, by unfold hintF; rw [if_neg h0, if_pos h1]; rfl, h.sub (by repeat (first | exact TakeL.nil | (apply TakeL.cons; · repeat (first | exact Take1.head | apply Take1.tail))))⟩
      · refine WC.seq ?_
        refine WC.region ?_
        refine WL.y (Yl.move rfl) rfl ?_ -- t50
        refine WL.y (Yl.assign rfl) rfl ?_ -- t6
        refine WL.y (Yl.assign rfl) rfl ?_ -- t7
        refine WL.nil ?_
        refine WC.ret ?_
        repeat (first | (with_reducible refine peelT ?_) | (with_reducible refine peelB ?_) | (with_reducible refine peelTX ?_) | (with_reducible refine peelBX ?_) | (with_reducible refine peelBN ?_) | (with_reducible refine peelBO rfl ?_))
        have h0 : ¬ R.2 = 0 := by have := of_decide_eq_false g51; omega
        have h1 : ¬ R.2 = 12 := by have := of_decide_eq_false g54; omega
        exact ret2 (.inr rfl) Try.results75 rfl rfl fun w' h => ⟨(), trivial, by unfold hintF; rw [if_neg h0, if_neg h1]; rfl, h.sub (by repeat (first | exact TakeL.nil | (apply TakeL.cons; · repeat (first | exact Take1.head | apply Take1.tail))))⟩
end Go.Proofs.Ytklbmgfpnafdlaa
