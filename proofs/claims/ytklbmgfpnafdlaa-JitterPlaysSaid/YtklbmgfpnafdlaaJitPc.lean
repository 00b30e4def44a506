/- A buffer played beside the document's: the walk. -/
import Derived.Test.YtklbmgfpnafdlaaJitZ
import Derived.Test.YtklbmgfpnafdlaaLibMk
namespace Go.Proofs.Ytklbmgfpnafdlaa
open Go Go.RowKit

theorem gN_s (B : Jb) : ∀ k, (gN B k).s = B.s
  | 0 => rfl
  | k + 1 => gN_s B k
theorem ysP_size {B : Jb} {z : Value} {K : Nat} : ∀ x ∈ ysP B z K, x.size = 2 := by
  intro x hx
  obtain ⟨j, _, rfl⟩ := List.mem_map.1 hx
  rfl
theorem ysP_len {B : Jb} {z : Value} {K : Nat} : (ysP B z K).length = cntK B K := by unfold ysP cntK; rw [List.length_map]
theorem xK_eq {B : Jb} {k : Nat} {L : List (Int × Int)} (h : Same L (gN B k).m) : xK B (.int .u32 0) k = .int .u32 ((mget L (gN B k).nx).getD 0) := by
  unfold xK
  rw [h.get, getW]
theorem del_lenV {m : List (Int × Value)} (hd : mnd m) (c : Int) : (mdel m c).length + (if (mget m c).isSome then 1 else 0) = m.length := by
  induction m with
  | nil => rfl
  | cons p m ih =>
    obtain ⟨h1, h2⟩ := List.pairwise_cons.1 hd
    have ih := ih h2
    by_cases h : p.1 = c
    · have e1 : mget (p :: m) c = some p.2 := by unfold mget; rw [List.find?_cons]; simp [h]
      have e2 : mget m c = none := mget_none.2 fun q hq e => h1 q hq (h.trans e.symm)
      have e3 : mdel (p :: m) c = mdel m c := by unfold mdel; rw [List.filter_cons]; simp [h]
      rw [e1, e3]
      rw [e2] at ih
      simp at ih ⊢
      omega
    · have e1 : mget (p :: m) c = mget m c := by unfold mget; rw [List.find?_cons]; simp [h]
      have e3 : mdel (p :: m) c = p :: mdel m c := by unfold mdel; rw [List.filter_cons]; simp [h]
      rw [e1, e3, List.length_cons, List.length_cons]
      omega
theorem gN_nd {B : Jb} (h : mnd B.m) : ∀ k, mnd (gN B k).m
  | 0 => h
  | k + 1 => mdel_nd (gN_nd h k) _
theorem cntK_len {B : Jb} (h : mnd B.m) : ∀ k, cntK B k + (gN B k).m.length = B.m.length
  | 0 => Nat.zero_add _
  | k + 1 => by
    have h1 := cntK_len h k
    have h2 := del_lenV (gN_nd h k) (gN B k).nx
    have e : (gN B (k + 1)).m = mdel (gN B k).m (gN B k).nx := rfl
    rw [cntK_succ, e]
    unfold loK
    cases hc : (mget (gN B k).m (gN B k).nx).isSome <;> rw [hc] at h2 <;> simp at h2 ⊢ <;> omega
set_option maxHeartbeats 1600000 in
set_option maxRecDepth 100000 in
theorem plays_any (b m bw : Nat) (ao : Option Addr) (ca : Nat) (B : Jb) (L : List (Int × Int)) (now n : Int) (hF : B.Fwd) (hs : 0 < B.s) (hS : Same L B.m) (hl : L.length ≤ 1000000) (w : World) (hw : OK w (fpL (jb 97 b m B ++ rfR bw ao ca B L)) (jb 97 b m B ++ rfR bw ao ca B L) w) :
    Fn Try.prog 14 [.pointer (some ⟨b, 0, none⟩), .pointer (some ⟨bw, 0, none⟩), .int .u64 now, .int .i64 n] (jb 97 b m B ++ rfR bw ao ca B L) w (fun y : Jb × (Option Addr × Nat) × List (Int × Int) => (y.1.Fwd ∧ y.1.s = B.s ∧ ∃ k, y.1 = gN B k) ∧ Same y.2.2 y.1.m ∧ y.2.2.length ≤ L.length) (fun _ => .bool true) (fun y => jb 97 b m y.1 ++ rfR bw y.2.1.1 y.2.1.2 y.1 y.2.2) := by
  obtain ⟨K, hPS, hK⟩ := play_any hF now (.int .u32 0)
  obtain ⟨L0, hL0⟩ : ∃ L0, L.length = L0 := ⟨_, rfl⟩
  unfold jb rfR at hw ⊢
  dsimp only [List.cons_append, List.nil_append] at hw ⊢
  refine enterM Try.func14 rfl Try.ntmps14 rfl hw ?_
  refine WC.seq ?_
  refine WC.region ?_
  refine WL.to (To.box (cs := [.pointer (some ⟨bw, 0, none⟩)]) rfl rfl) rfl ?_ -- t5
  intro b5
  refine WL.to (To.box (cs := [.int .u64 now]) rfl rfl) rfl ?_ -- t6
  intro b6
  refine WL.to (To.box (cs := [.int .i64 n]) rfl rfl) rfl ?_ -- t7
  intro b7
  refine WL.to (To.alloc (cs := [.bool false]) zr4 rfl) rfl ?_ -- t8
  intro b8
  refine WL.nil ?_
  refine WC.seq ?_
  refine WC.region ?_
  refine WL.to (To.alloc (cs := [.int .i64 0]) zr3 rfl) rfl ?_ -- t9
  intro b9
  refine WL.sto (Sto.one sz3 rfl rfl (by repeat (first | exact Take1.head | apply Take1.tail)) rfl (by rfl) (by rfl)) (fun _ h => nomatch h) ?_ -- st 1
  refine WL.nil ?_
  refine WC.seq ?_
  refine WC.seq ?_
  refine WC.region ?_
  refine WL.y (Yl.move rfl) rfl ?_ -- t20
  refine WL.y (Yl.load on22 rfl (by repeat (first | exact Take1.head | apply Take1.tail)) (by rfl)) rfl ?_ -- t21
  refine WL.callC (xs := [.tmp 20, .tmp 21]) (cap := []) rfl rfl en41 (by repeat (first | exact TakeL.nil | (apply TakeL.cons; · repeat (first | exact Take1.head | apply Take1.tail)))) (fun w hw => playU_any b now w hw.left.here) rfl ?_ -- t22 (*hailer/jitter.Buffer[uint32]).Play
  rintro ⟨p2, p3⟩ -
  dsimp only [List.cons_append, List.nil_append]
  refine WL.nil ?_
  refine WC.block ?_
  refine WC.rangeW (α := Nat × (Option Addr × Nat) × List (Int × Int)) (A := plR 25 97 22 p2 p3 b m now B) (E := plR 25 97 22 p2 p3 b m now (gN B K)) (Ex := fun i => plR 25 97 22 p2 p3 b m now (gN B (posK B K i + 1))) (lb := [.pointer (some ⟨p2, 0, none⟩), .pointer (some ⟨p3, 0, none⟩)]) (xs := ysP B (.int .u32 0) K) (fun i s => [blkR b5 31 [.pointer (some ⟨bw, 0, none⟩)], blkR b6 22 [.int .u64 now], blkR b7 3 [.int .i64 n], blkR b8 4 [.bool false], blkR b9 3 [.int .i64 (i : Int)], blkR bw 35 ((gN B s.1).rcells (.slice s.2.1.1 s.2.2.length s.2.1.2)), ownR (.slice s.2.1.1 s.2.2.length s.2.1.2) 46 2 s.2.2.length (vcs thV s.2.2)]) (fun i s => s.1 ≤ K ∧ cntK B s.1 = i ∧ Same s.2.2 (gN B s.1).m ∧ s.2.2.length ≤ L0) (0, (ao, ca), L) rfl en58 ysP_size rfl (by repeat (first | exact TakeL.nil | (apply TakeL.cons; · repeat (first | exact Take1.head | apply Take1.tail)))) (play1U_iter p2 p3 b m now hPS) rfl (fun _ => rfl) ⟨Nat.zero_le _, rfl, hS, by rw [hL0]; exact Nat.le_refl _⟩ (by repeat (first | exact TakeL.nil | (apply TakeL.cons; · repeat (first | exact Take1.head | apply Take1.tail)))) ?_ ?_
  · rintro l2 i x ⟨r, ⟨ao1, ca1⟩, L1⟩ hx ⟨hr, hc, hS1, hl1⟩ W
    dsimp only at hr hc hS1 hl1 ⊢
    have hil := (List.getElem?_eq_some_iff.1 hx).1
    obtain ⟨hp1, hp2, hp3, hpx⟩ := pos_at hx
    obtain ⟨p, hp⟩ : ∃ p, posK B K i = p := ⟨_, rfl⟩
    rw [hp] at hp1 hp2 hp3 hpx ⊢
    subst hpx
    have hrp : r ≤ p := by
      refine Nat.le_of_not_lt fun h => ?_
      have h1 := cntK_mono B (show p + 1 ≤ r from h)
      rw [cntK_succ, hp2] at h1
      simp at h1
      omega
    show WC _ _ _ ((24, xK B (.int .u32 0) p) :: (23, .int .u64 (gN B p).nx) :: _) _ _
    refine WC.seq ?_
    refine WC.region ?_
    refine WL.y (Yl.assign rfl) rfl ?_ -- t10
    refine WL.nil ?_
    refine WC.region ?_
    refine WL.y (Yl.assign rfl) rfl ?_ -- t11
    refine WL.nil ?_
    repeat (first | (with_reducible refine peelT ?_) | (with_reducible refine peelB ?_) | (with_reducible refine peelTX ?_) | (with_reducible refine peelBX ?_) | (with_reducible refine peelBN ?_) | (with_reducible refine peelBO rfl ?_))
    refine fun W2 => ?_
    refine WC.block ?_
    refine WC.midX (α := (Option Addr × Nat) × List (Int × Int)) (fun _ => [(5, .pointer (some ⟨b5, 0, none⟩)), (6, .pointer (some ⟨b6, 0, none⟩)), (7, .pointer (some ⟨b7, 0, none⟩)), (8, .pointer (some ⟨b8, 0, none⟩)), (9, .pointer (some ⟨b9, 0, none⟩))]) (fun s => [blkR b5 31 [.pointer (some ⟨bw, 0, none⟩)], blkR b6 22 [.int .u64 now], blkR b7 3 [.int .i64 n], blkR b8 4 [.bool false], blkR b9 3 [.int .i64 (i : Int)], blkR bw 35 ((gN B (p + 1)).rcells (.slice s.1.1 s.2.length s.1.2)), ownR (.slice s.1.1 s.2.length s.1.2) 46 2 s.2.length (vcs thV s.2)]) (fun s => Same s.2 (gN B (p + 1)).m ∧ s.2.length ≤ L0) ?_ ?_
    · refine WC.block ?_
      refine WC.loop (α := Nat × (Option Addr × Nat) × List (Int × Int)) (fun _ => [(5, .pointer (some ⟨b5, 0, none⟩)), (6, .pointer (some ⟨b6, 0, none⟩)), (7, .pointer (some ⟨b7, 0, none⟩)), (8, .pointer (some ⟨b8, 0, none⟩)), (9, .pointer (some ⟨b9, 0, none⟩)), (10, .int .u64 (gN B p).nx), (11, xK B (.int .u32 0) p)]) (fun s => [blkR b5 31 [.pointer (some ⟨bw, 0, none⟩)], blkR b6 22 [.int .u64 now], blkR b7 3 [.int .i64 n], blkR b8 4 [.bool false], blkR b9 3 [.int .i64 (i : Int)], blkR bw 35 ((gN B s.1).rcells (.slice s.2.1.1 s.2.2.length s.2.1.2)), ownR (.slice s.2.1.1 s.2.2.length s.2.1.2) 46 2 s.2.2.length (vcs thV s.2.2)]) (fun s => r ≤ s.1 ∧ s.1 ≤ p ∧ Same s.2.2 (gN B s.1).m ∧ s.2.2.length ≤ L0) (fun s => p - s.1) (r, (ao1, ca1), L1) ⟨Nat.le_refl _, hrp, hS1, hl1⟩ ⟨(by repeat (first | exact Sub.nil | refine Sub.cons rfl ?_)), _, (by repeat (first | exact TakeL.nil | (apply TakeL.cons; · repeat (first | exact Take1.head | apply Take1.tail))))⟩ ?_
      rintro ⟨q, ⟨ao2, ca2⟩, L2⟩ ⟨hrq, hqp, hS2, hl2⟩
      dsimp only at hrq hqp hS2 hl2 ⊢
      refine WC.block ?_
      refine WC.seq ?_
      refine WC.region ?_
      refine WL.y (Yl.load on31 rfl (by repeat (first | exact Take1.head | apply Take1.tail)) (by rfl)) rfl ?_ -- t26
      refine WL.y (Yl.load on22 rfl (by repeat (first | exact Take1.head | apply Take1.tail)) (by rfl)) rfl ?_ -- t27
      refine WL.callC (xs := [.tmp 26, .tmp 27]) (cap := []) rfl rfl en13 (by repeat (first | exact TakeL.nil | (apply TakeL.cons; · repeat (first | exact Take1.head | apply Take1.tail)))) (fun w hw => rask_any bw ao2 ca2 (gN B q) L2 now (hK q (by omega)) (by rw [gN_s]; exact hs) hS2 (by omega) w hw.left.here) rfl ?_ -- t28 (*hailer/hailerref39.Buffer).Ask
      rintro ⟨⟨ao3, ca3⟩, L3⟩ ⟨hS3, hl3⟩
      rw [hPS.step q (by omega)] at hS3
      rw [hPS.step q (by omega)]
      dsimp only [rfR, List.cons_append, List.nil_append] at hS3 hl3 ⊢
      refine WL.y (Yl.move rfl) rfl ?_ -- t25
      refine WL.y (Yl.extract rfl rfl) rfl ?_ -- t29
      refine WL.y (Yl.extract rfl rfl) rfl ?_ -- t30
      refine WL.y (Yl.extract rfl rfl) rfl ?_ -- t31
      refine WL.y (Yl.extract rfl rfl) rfl ?_ -- t32
      refine WL.y (Yl.assign rfl) rfl ?_ -- t12
      refine WL.y (Yl.assign rfl) rfl ?_ -- t13
      refine WL.y (Yl.assign rfl) rfl ?_ -- t14
      refine WL.y (Yl.assign rfl) rfl ?_ -- t15
      refine WL.nil ?_
      refine WC.seq ?_
      refine WC.seq ?_
      refine WC.region ?_
      refine WL.y (Yl.move rfl) rfl ?_ -- t33
      refine WL.y (Yl.not rfl) rfl ?_ -- t34
      refine WL.know (t := 34) (b' := false) rfl (by first | rfl | (simp; done) | (simp; omega)) ?_
      refine WL.nil ?_
      refine WC.condF rfl (by first | rfl | (simp; done) | (simp; omega)) ?_
      refine WC.skip ?_
      refine WC.seq ?_
      refine WC.region ?_
      refine WL.y (Yl.move rfl) rfl ?_ -- t35
      refine WL.y (Yl.not rfl) rfl ?_ -- t36
      refine WL.nil ?_
      refine WC.cond rfl (fun g36 => ?_) (fun g36 => ?_)
      · refine WC.seq ?_
        refine WC.seq ?_
        have hqe : q = p := by
          have hlo : loK B q = false := by simpa using g36
          by_cases e : q = p
          · exact e
          · have := lost_between (B := B) (K := K) (r := r) (i := i) (j := q) hc hrq (by omega) (fun _ => by rw [hp]; exact fun h => e h.symm) (by have := cntK_mono B hqp; omega)
            rw [hlo] at this
            cases this
        subst hqe
        rw [xK_eq hS2]
        refine WC.region ?_
        refine WL.y (Yl.move rfl) rfl ?_ -- t37
        refine WL.y (Yl.move rfl) rfl ?_ -- t38
        refine WL.y (Yl.neq rfl rfl) rfl ?_ -- t39
        refine WL.know (t := 39) (b' := false) rfl (by simp) ?_
        refine WL.y (Yl.move rfl) rfl ?_ -- t40
        refine WL.on rfl rfl ?_
        refine WL.y (Yl.move rfl) rfl ?_ -- t41
        refine WL.on rfl rfl ?_
        refine WL.y (Yl.move rfl) rfl ?_ -- t42
        refine WL.on rfl rfl ?_
        refine WL.y (Yl.neq rfl rfl) rfl ?_ -- t43
        refine WL.know (t := 43) (b' := false) rfl (by simp) ?_
        refine WL.y (Yl.pickF rfl rfl) rfl ?_ -- t44
        refine WL.know (t := 44) (b' := false) rfl (by first | rfl | (simp; done) | (simp; omega)) ?_
        refine WL.nil ?_
        refine WC.condF rfl (by first | rfl | (simp; done) | (simp; omega)) ?_
        refine WC.skip ?_
        refine WC.exit ?_
        exact ⟨rfl, ((ao3, ca3), L3), ⟨hS3, by dsimp only; omega⟩, (by repeat (first | exact Sub.nil | refine Sub.cons rfl ?_)), _, (by repeat (first | exact TakeL.nil | (apply TakeL.cons; · repeat (first | exact Take1.head | apply Take1.tail))))⟩
      · refine WC.skip ?_
        have hlo : loK B q = true := by simpa using g36
        have hqp' : q ≠ p := fun e => by
          rw [e, hp2] at hlo
          cases hlo
        exact ⟨rfl, (q + 1, (ao3, ca3), L3), ⟨by dsimp only; omega, by dsimp only; omega, hS3, by dsimp only; omega⟩, by dsimp only; omega, (by repeat (first | exact Sub.nil | refine Sub.cons rfl ?_)), _, (by repeat (first | exact TakeL.nil | (apply TakeL.cons; · repeat (first | exact Take1.head | apply Take1.tail))))⟩
    · rintro ⟨⟨ao4, ca4⟩, L4⟩ ⟨hS4, hl4⟩
      dsimp only at hS4 hl4 ⊢
      have hiN : i < 9223372036854775807 := by
        have h1 := hil
        rw [ysP_len] at h1
        have h2 := cntK_len hS.ndm K
        have h3 := hS.len
        omega
      refine WC.seq ?_
      refine WC.region ?_
      refine WL.y (Yl.load on3 rfl (by repeat (first | exact Take1.head | apply Take1.tail)) (by rfl)) rfl ?_ -- t45
      refine WL.y (Yl.add rfl rfl (IntWalk.i64_in _ (by omega))) rfl ?_ -- t46
      refine WL.say (t := 46) (v' := .int .i64 ((i + 1 : Nat) : Int)) rfl (by rfl) ?_
      refine WL.sto (Sto.one sz3 rfl rfl (by repeat (first | exact Take1.head | apply Take1.tail)) rfl (by rfl) (by rfl)) (fun _ h => nomatch h) ?_ -- st 4
      refine WL.nil ?_
      refine WC.seq ?_
      refine WC.region ?_
      refine WL.y (Yl.load on3 rfl (by repeat (first | exact Take1.head | apply Take1.tail)) (by rfl)) rfl ?_ -- t47
      refine WL.y (Yl.load on3 rfl (by repeat (first | exact Take1.head | apply Take1.tail)) (by rfl)) rfl ?_ -- t48
      refine WL.y (Yl.geq rfl rfl) rfl ?_ -- t49
      refine WL.nil ?_
      refine WC.condD rfl (fun g49 => ?_) (fun g49 => ?_)
      · refine WC.seq ?_
        refine WC.region ?_
        refine WL.sto (Sto.one sz4 rfl rfl (by repeat (first | exact Take1.head | apply Take1.tail)) rfl (by rfl) (by rfl)) (fun _ h => nomatch h) ?_ -- st 5
        refine WL.nil ?_
        refine WC.ret ?_
        repeat (first | (with_reducible refine peelT ?_) | (with_reducible refine peelB ?_) | (with_reducible refine peelTX ?_) | (with_reducible refine peelBX ?_) | (with_reducible refine peelBN ?_) | (with_reducible refine peelBO rfl ?_))
        refine ⟨[blkR b5 31 [.pointer (some ⟨bw, 0, none⟩)], blkR b6 22 [.int .u64 now], blkR b7 3 [.int .i64 n], blkR b8 4 [.bool true], blkR b9 3 [.int .i64 ((i + 1 : Nat) : Int)], blkR bw 35 ((gN B (p + 1)).rcells (.slice ao4 L4.length ca4)), ownR (.slice ao4 L4.length ca4) 46 2 L4.length (vcs thV L4)], _, (by repeat (first | exact TakeL.nil | (apply TakeL.cons; · repeat (first | exact Take1.head | apply Take1.tail)))), fun D => ?_⟩
        dsimp only [plR, List.cons_append, List.nil_append]
        repeat (first | (with_reducible refine peelT ?_) | (with_reducible refine peelB ?_) | (with_reducible refine peelTX ?_) | (with_reducible refine peelBX ?_) | (with_reducible refine peelBN ?_) | (with_reducible refine peelBO rfl ?_))
        refine retM.of (.cons (by repeat (first | exact Take1.head | apply Take1.tail)) .nil) ?_
        first | exact retV1 (.inr rfl) Try.results14 on4 rfl (by repeat (first | exact Take1.head | apply Take1.tail)) fun w' h => ⟨(gN B (p + 1), (ao4, ca4), L4), ⟨⟨hK _ (by omega), gN_s _ _, _, rfl⟩, hS4, by dsimp only; omega⟩, rfl, h.sub (by repeat (first | exact TakeL.nil | (apply TakeL.cons; · repeat (first | exact Take1.head | apply Take1.tail))))⟩ | (
          have hqe : q = K := by
            have : ¬ q < K := by simpa using g59
            omega
          have e := h2 hqe
          rw [e] at hS3
          rw [e]
          exact retV1 (.inr rfl) Try.results14 on4 rfl (by repeat (first | exact Take1.head | apply Take1.tail)) fun w' h => ⟨(gN B K, (ao3, ca3), L3), ⟨⟨hK _ (Nat.le_refl _), gN_s _ _, _, rfl⟩, hS3, by dsimp only; omega⟩, rfl, h.sub (by repeat (first | exact TakeL.nil | (apply TakeL.cons; · repeat (first | exact Take1.head | apply Take1.tail))))⟩)
      · refine WC.skip ?_
        repeat (first | (with_reducible refine peelT ?_) | (with_reducible refine peelB ?_) | (with_reducible refine peelTX ?_) | (with_reducible refine peelBX ?_) | (with_reducible refine peelBN ?_) | (with_reducible refine peelBO rfl ?_))
        exact ⟨[blkR b5 31 [.pointer (some ⟨bw, 0, none⟩)], blkR b6 22 [.int .u64 now], blkR b7 3 [.int .i64 n], blkR b8 4 [.bool false], blkR b9 3 [.int .i64 ((i + 1 : Nat) : Int)], blkR bw 35 ((gN B (p + 1)).rcells (.slice ao4 L4.length ca4)), ownR (.slice ao4 L4.length ca4) 46 2 L4.length (vcs thV L4)], _, (by repeat (first | exact TakeL.nil | (apply TakeL.cons; · repeat (first | exact Take1.head | apply Take1.tail)))), (p + 1, (ao4, ca4), L4), ⟨by dsimp only; omega, by dsimp only; rw [cntK_succ, hp2, hp3]; rfl, hS4, hl4⟩, rfl⟩
  · rintro ⟨r, ⟨ao1, ca1⟩, L1⟩ D ⟨hr, hc, hS1, hl1⟩
    dsimp only [plR, List.cons_append, List.nil_append] at hr hc hS1 hl1 ⊢
    refine WC.block ?_
    refine WC.loop (α := Nat × (Option Addr × Nat) × List (Int × Int)) (fun _ => [(5, .pointer (some ⟨b5, 0, none⟩)), (6, .pointer (some ⟨b6, 0, none⟩)), (8, .pointer (some ⟨b8, 0, none⟩))]) (fun s => [objR D (.deferred (some [])), blkR b 97 ((gN B K).cells m), mapR (Value.int .u64) vI m (gN B K).m, blkR b5 31 [.pointer (some ⟨bw, 0, none⟩)], blkR b6 22 [.int .u64 now], blkR b7 3 [.int .i64 n], blkR b8 4 [.bool false], blkR bw 35 ((gN B s.1).rcells (.slice s.2.1.1 s.2.2.length s.2.1.2)), ownR (.slice s.2.1.1 s.2.2.length s.2.1.2) 46 2 s.2.2.length (vcs thV s.2.2)]) (fun s => s.1 ≤ K ∧ cntK B s.1 = (ysP B (.int .u32 0) K).length ∧ Same s.2.2 (gN B s.1).m ∧ s.2.2.length ≤ L0) (fun s => K - s.1) (r, (ao1, ca1), L1) ⟨hr, hc, hS1, hl1⟩ ⟨(by repeat (first | exact Sub.nil | refine Sub.cons rfl ?_)), _, (by repeat (first | exact TakeL.nil | (apply TakeL.cons; · repeat (first | exact Take1.head | apply Take1.tail))))⟩ ?_
    rintro ⟨q, ⟨ao2, ca2⟩, L2⟩ ⟨hqK, hcq, hS2, hl2⟩
    dsimp only at hqK hcq hS2 hl2 ⊢
    obtain ⟨gn, xx, cc, ll, hn, h1, h2⟩ := hPS.all hqK
    refine WC.block ?_
    refine WC.seq ?_
    refine WC.region ?_
    refine WL.y (Yl.load on31 rfl (by repeat (first | exact Take1.head | apply Take1.tail)) (by rfl)) rfl ?_ -- t51
    refine WL.y (Yl.load on22 rfl (by repeat (first | exact Take1.head | apply Take1.tail)) (by rfl)) rfl ?_ -- t52
    refine WL.callC (xs := [.tmp 51, .tmp 52]) (cap := []) rfl rfl en13 (by repeat (first | exact TakeL.nil | (apply TakeL.cons; · repeat (first | exact Take1.head | apply Take1.tail)))) (fun w hw => rask_any bw ao2 ca2 (gN B q) L2 now (hK q hqK) (by rw [gN_s]; exact hs) hS2 (by omega) w hw.left.here) rfl ?_ -- t53 (*hailer/hailerref39.Buffer).Ask
    rintro ⟨⟨ao3, ca3⟩, L3⟩ ⟨hS3, hl3⟩
    rw [hn] at hS3
    rw [hn]
    dsimp only [rfR, List.cons_append, List.nil_append] at hS3 hl3 ⊢
    refine WL.y (Yl.move rfl) rfl ?_ -- t50
    refine WL.y (Yl.extract rfl rfl) rfl ?_ -- t54
    refine WL.y (Yl.extract rfl rfl) rfl ?_ -- t55
    refine WL.y (Yl.extract rfl rfl) rfl ?_ -- t56
    refine WL.y (Yl.extract rfl rfl) rfl ?_ -- t57
    refine WL.y (Yl.assign rfl) rfl ?_ -- t16
    refine WL.y (Yl.assign rfl) rfl ?_ -- t17
    refine WL.y (Yl.assign rfl) rfl ?_ -- t18
    refine WL.y (Yl.assign rfl) rfl ?_ -- t19
    refine WL.nil ?_
    refine WC.seq ?_
    refine WC.seq ?_
    refine WC.region ?_
    refine WL.y (Yl.move rfl) rfl ?_ -- t58
    refine WL.y (Yl.not rfl) rfl ?_ -- t59
    refine WL.nil ?_
    refine WC.cond rfl (fun g59 => ?_) (fun g59 => ?_)
    · refine WC.seq ?_
      refine WC.region ?_
      refine WL.sto (Sto.one sz4 rfl rfl (by repeat (first | exact Take1.head | apply Take1.tail)) rfl (by rfl) (by rfl)) (fun _ h => nomatch h) ?_ -- st 6
      refine WL.nil ?_
      refine WC.ret ?_
      repeat (first | (with_reducible refine peelT ?_) | (with_reducible refine peelB ?_) | (with_reducible refine peelTX ?_) | (with_reducible refine peelBX ?_) | (with_reducible refine peelBN ?_) | (with_reducible refine peelBO rfl ?_))
      refine retM.of (.cons (by repeat (first | exact Take1.head | apply Take1.tail)) .nil) ?_
      first | exact retV1 (.inr rfl) Try.results14 on4 rfl (by repeat (first | exact Take1.head | apply Take1.tail)) fun w' h => ⟨(gN B (p + 1), (ao4, ca4), L4), ⟨⟨hK _ (by omega), gN_s _ _, _, rfl⟩, hS4, by dsimp only; omega⟩, rfl, h.sub (by repeat (first | exact TakeL.nil | (apply TakeL.cons; · repeat (first | exact Take1.head | apply Take1.tail))))⟩ | (
        have hqe : q = K := by
          have : ¬ q < K := by simpa using g59
          omega
        have e := h2 hqe
        rw [e] at hS3
        rw [e]
        exact retV1 (.inr rfl) Try.results14 on4 rfl (by repeat (first | exact Take1.head | apply Take1.tail)) fun w' h => ⟨(gN B K, (ao3, ca3), L3), ⟨⟨hK _ (Nat.le_refl _), gN_s _ _, _, rfl⟩, hS3, by dsimp only; omega⟩, rfl, h.sub (by repeat (first | exact TakeL.nil | (apply TakeL.cons; · repeat (first | exact Take1.head | apply Take1.tail))))⟩)
    · refine WC.skip ?_
      refine WC.seq ?_
      refine WC.region ?_
      refine WL.y (Yl.move rfl) rfl ?_ -- t60
      refine WL.y (Yl.not rfl) rfl ?_ -- t61
      refine WL.know (t := 61) (b' := false) rfl (by
        have hlt : q < K := by simpa using g59
        rw [(h1 hlt).2.2.2]
        cases e : loK B q with
        | true => rfl
        | false =>
          have := (hPS.y q hlt e).1
          omega) ?_
      refine WL.nil ?_
      refine WC.condF rfl (by first | rfl | (simp; done) | (simp; omega)) ?_
      refine WC.skip ?_
      have hlt : q < K := by simpa using g59
      have e := (h1 hlt).1
      have hlo : loK B q = true := by
        cases e : loK B q with
        | true => rfl
        | false =>
          have := (hPS.y q hlt e).1
          omega
      rw [e] at hS3
      rw [e]
      exact ⟨rfl, (q + 1, (ao3, ca3), L3), ⟨by dsimp only; omega, by dsimp only; rw [cntK_succ, hlo]; simpa using hcq, hS3, by dsimp only; omega⟩, by dsimp only; omega, (by repeat (first | exact Sub.nil | refine Sub.cons rfl ?_)), _, (by repeat (first | exact TakeL.nil | (apply TakeL.cons; · repeat (first | exact Take1.head | apply Take1.tail))))⟩
end Go.Proofs.Ytklbmgfpnafdlaa

namespace Go.Proofs.Ytklbmgfpnafdlaa
open Go Go.RowKit

theorem newU_bad' (d s : Int) (hm : mayJ d s = false) (hd : U6 d) (hs : U6 s) (w : World) (hw : OK w (fpL []) [] w) : Fn Try.prog 8 [.int .u64 d, .int .u64 s] [] w (fun _ : Unit => True) (fun _ => .tuple #[.pointer none, .int .i64 2]) (fun _ => []) := by
  have hd0 := hd.1
  have hs0 := hs.1
  refine enterF Try.func8 rfl Try.ntmps8 rfl hw ?_
  refine WC.seq ?_
  refine WC.region ?_
  refine WL.y (Yl.assign rfl) rfl ?_ -- t4
  refine WL.y (Yl.assign rfl) rfl ?_ -- t5
  refine WL.nil ?_
  refine WC.seq ?_
  refine WC.midE (α := Unit) (fun _ => [(15, .bool (!mayJ d s))]) (fun _ => []) (fun _ => True) ?_ ?_
  · refine WC.region ?_
    refine WL.y (Yl.move rfl) rfl ?_ -- t6
    refine WL.y (Yl.gtr rfl rfl) rfl ?_ -- t7
    refine WL.y (Yl.move rfl) rfl ?_ -- t8
    refine WL.both (t := 8) rfl (fun g8 => ?_) (fun g8 => ?_)
    · refine WL.off rfl rfl rfl rfl ?_ -- t9
      refine WL.off rfl rfl rfl rfl ?_ -- t10
      refine WL.y (Yl.pickT rfl rfl) rfl ?_ -- t11
      refine WL.y (Yl.move rfl) rfl ?_ -- t12
      refine WL.off rfl rfl rfl rfl ?_ -- t13
      refine WL.off rfl rfl rfl rfl ?_ -- t14
      refine WL.y (Yl.pickT rfl rfl) rfl ?_ -- t15
      refine WL.say (t := 15) (v' := .bool (!mayJ d s)) rfl (by (refine congrArg Value.bool ?_; clear hm hw; unfold mayJ; by_cases a : d ≤ 4294967296 <;> by_cases b : 0 < s <;> by_cases c : s ≤ 4294967296 <;> simp_all <;> omega)) ?_
      refine WL.nil ?_
      exact ⟨rfl, (), trivial, (by repeat (first | exact Sub.nil | refine Sub.cons rfl ?_)), (by repeat (first | exact Sub.nil | refine Sub.cons rfl ?_)), _, (by repeat (first | exact TakeL.nil | (apply TakeL.cons; · repeat (first | exact Take1.head | apply Take1.tail))))⟩
    · refine WL.on rfl rfl ?_
      refine WL.y (Yl.move rfl) rfl ?_ -- t9
      refine WL.on rfl rfl ?_
      refine WL.y (Yl.eql rfl rfl) rfl ?_ -- t10
      refine WL.y (Yl.pickF rfl rfl) rfl ?_ -- t11
      refine WL.y (Yl.move rfl) rfl ?_ -- t12
      refine WL.both (t := 12) rfl (fun g12 => ?_) (fun g12 => ?_)
      · refine WL.off rfl rfl rfl rfl ?_ -- t13
        refine WL.off rfl rfl rfl rfl ?_ -- t14
        refine WL.y (Yl.pickT rfl rfl) rfl ?_ -- t15
        refine WL.say (t := 15) (v' := .bool (!mayJ d s)) rfl (by (refine congrArg Value.bool ?_; clear hm hw; unfold mayJ; by_cases a : d ≤ 4294967296 <;> by_cases b : 0 < s <;> by_cases c : s ≤ 4294967296 <;> simp_all <;> omega)) ?_
        refine WL.nil ?_
        exact ⟨rfl, (), trivial, (by repeat (first | exact Sub.nil | refine Sub.cons rfl ?_)), (by repeat (first | exact Sub.nil | refine Sub.cons rfl ?_)), _, (by repeat (first | exact TakeL.nil | (apply TakeL.cons; · repeat (first | exact Take1.head | apply Take1.tail))))⟩
      · refine WL.on rfl rfl ?_
        refine WL.y (Yl.move rfl) rfl ?_ -- t13
        refine WL.on rfl rfl ?_
        refine WL.y (Yl.gtr rfl rfl) rfl ?_ -- t14
        refine WL.y (Yl.pickF rfl rfl) rfl ?_ -- t15
        refine WL.say (t := 15) (v' := .bool (!mayJ d s)) rfl (by (refine congrArg Value.bool ?_; clear hm hw; unfold mayJ; by_cases a : d ≤ 4294967296 <;> by_cases b : 0 < s <;> by_cases c : s ≤ 4294967296 <;> simp_all <;> omega)) ?_
        refine WL.nil ?_
        exact ⟨rfl, (), trivial, (by repeat (first | exact Sub.nil | refine Sub.cons rfl ?_)), (by repeat (first | exact Sub.nil | refine Sub.cons rfl ?_)), _, (by repeat (first | exact TakeL.nil | (apply TakeL.cons; · repeat (first | exact Take1.head | apply Take1.tail))))⟩
  · rintro ⟨⟩ -
    rw [hm]
    dsimp only [List.nil_append, List.cons_append, Bool.not_false]
    refine WC.condT rfl (by first | rfl | (simp; done) | (simp; omega)) ?_
    refine WC.seq ?_
    refine WC.region ?_
    refine WL.y (Yl.assign rfl) rfl ?_ -- t4
    refine WL.y (Yl.assign rfl) rfl ?_ -- t5
    refine WL.nil ?_
    refine WC.ret ?_
    repeat (first | (with_reducible refine peelT ?_) | (with_reducible refine peelB ?_) | (with_reducible refine peelTX ?_) | (with_reducible refine peelBX ?_) | (with_reducible refine peelBN ?_) | (with_reducible refine peelBO rfl ?_))
    exact ret2 (.inr rfl) Try.results8 rfl rfl fun w' h => ⟨(), trivial, rfl, h.sub (by repeat (first | exact TakeL.nil | (apply TakeL.cons; · repeat (first | exact Take1.head | apply Take1.tail))))⟩
theorem alP_any (b : Nat) (w : World) (hw : OK w (fpL []) [] w) :
    Fn Try.prog 15 [.pointer (some ⟨b, 0, none⟩)] [] w (fun _ : Nat => True) (fun y => .func (.func 42) #[] #[.pointer (some ⟨y, 0, none⟩)]) (fun y => [blkR y 25 [.pointer (some ⟨b, 0, none⟩)]]) := by
  refine enterF Try.func15 rfl Try.ntmps15 rfl hw ?_
  refine WC.seq ?_
  refine WC.region ?_
  refine WL.to (To.box (cs := [.pointer (some ⟨b, 0, none⟩)]) rfl rfl) rfl ?_ -- t1
  intro b1
  refine WL.y (Yl.assign rfl) rfl ?_ -- t2
  refine WL.nil ?_
  refine WC.seq ?_
  refine WC.region ?_
  refine WL.y (Yl.makeFunc (xs := []) (ys := [.tmp 1]) rfl rfl) rfl ?_ -- t3
  refine WL.y (Yl.assign rfl) rfl ?_ -- t2
  refine WL.nil ?_
  refine WC.ret ?_
  repeat (first | (with_reducible refine peelT ?_) | (with_reducible refine peelB ?_) | (with_reducible refine peelTX ?_) | (with_reducible refine peelBX ?_) | (with_reducible refine peelBN ?_) | (with_reducible refine peelBO rfl ?_))
  exact ret1 (.inr rfl) Try.results15 rfl fun w' h => ⟨b1, trivial, rfl, h.sub (by repeat (first | exact TakeL.nil | (apply TakeL.cons; · repeat (first | exact Take1.head | apply Take1.tail))))⟩
theorem al_iterP (b1 b bm : Nat) (B : Jb) (hB : B.ok) (hm : B.m.length ≤ 1000000) :
    IterW Try.prog 42 ([.pointer (some ⟨b1, 0, none⟩)] : List Value).toArray (alR 25 97 b1 b bm B) (ysAU B.m) (alR 25 97 b1 b bm B) (fun _ => alR 25 97 b1 b bm B) :=
  iterW_of_iter fun W hW => all1U_iter b1 b bm B hB hm W hW
theorem sumsL_any (b m : Nat) (B : Jb) (w : World) (hw : OK w (fpL (jb 97 b m B)) (jb 97 b m B) w) : Fn Try.prog 17 [.pointer (some ⟨b, 0, none⟩)] (jb 97 b m B) w (fun _ : Unit => True) (fun _ => .agg B.sums.toArray) (fun _ => jb 97 b m B) := by
  unfold jb at hw ⊢
  refine enterF Try.func17 rfl Try.ntmps17 rfl hw ?_
  refine WC.seq ?_
  refine WC.region ?_
  refine WL.to (To.alloc (cs := List.replicate 6 (.int .u64 0)) zr33 rfl) rfl ?_ -- t2
  intro b2
  refine WL.nil ?_
  refine WC.seq ?_
  refine WC.region ?_
  refine WL.y (Yl.move rfl) rfl ?_ -- t4
  refine WL.callC (xs := [.tmp 4]) (cap := []) rfl rfl en23 (by repeat (first | exact TakeL.nil | (apply TakeL.cons; · repeat (first | exact Take1.head | apply Take1.tail)))) (fun w hw => sumsU_any b m B w hw.left.here) rfl ?_ -- t5 (*hailer/jitter.Buffer[uint32]).Sums
  rintro ⟨⟩ -
  dsimp only [jb, List.cons_append, List.nil_append]
  refine WL.to (To.alloc (cs := List.replicate 6 (.int .u64 0)) zr66 rfl) rfl ?_ -- t3
  intro b3
  refine WL.sto (Sto.agg sz66 rfl rfl (by repeat (first | exact Take1.head | apply Take1.tail)) (fun v hv => by simp [Jb.sums] at hv; rcases hv with rfl | rfl | rfl | rfl | rfl | rfl <;> rfl) rfl (by rfl) (show _ = B.sums from rfl)) (fun _ h => nomatch h) ?_ -- st 1
  refine WL.nil ?_
  refine WC.seq ?_
  refine WC.region ?_
  refine WL.y (Yl.field fo66_0 rfl) rfl ?_ -- t6
  refine WL.y (Yl.load on22 rfl (by repeat (first | exact Take1.head | apply Take1.tail)) (by rfl)) rfl ?_ -- t7
  refine WL.y (Yl.field fo66_1 rfl) rfl ?_ -- t8
  refine WL.y (Yl.load on22 rfl (by repeat (first | exact Take1.head | apply Take1.tail)) (by rfl)) rfl ?_ -- t9
  refine WL.y (Yl.field fo66_2 rfl) rfl ?_ -- t10
  refine WL.y (Yl.load on22 rfl (by repeat (first | exact Take1.head | apply Take1.tail)) (by rfl)) rfl ?_ -- t11
  refine WL.y (Yl.field fo66_3 rfl) rfl ?_ -- t12
  refine WL.y (Yl.load on22 rfl (by repeat (first | exact Take1.head | apply Take1.tail)) (by rfl)) rfl ?_ -- t13
  refine WL.y (Yl.field fo66_4 rfl) rfl ?_ -- t14
  refine WL.y (Yl.load on22 rfl (by repeat (first | exact Take1.head | apply Take1.tail)) (by rfl)) rfl ?_ -- t15
  refine WL.y (Yl.field fo66_5 rfl) rfl ?_ -- t16
  refine WL.y (Yl.load on22 rfl (by repeat (first | exact Take1.head | apply Take1.tail)) (by rfl)) rfl ?_ -- t17
  refine WL.y (Yl.build rfl (cs := B.sums) (fun _ => by kernel_rfl)) rfl ?_ -- t18
  refine WL.sto (Sto.agg sz33 rfl rfl (by repeat (first | exact Take1.head | apply Take1.tail)) (fun v hv => by simp [Jb.sums] at hv; rcases hv with rfl | rfl | rfl | rfl | rfl | rfl <;> rfl) rfl (by rfl) (show _ = B.sums from rfl)) (fun _ h => nomatch h) ?_ -- st 2
  refine WL.nil ?_
  refine WC.ret ?_
  repeat (first | (with_reducible refine peelT ?_) | (with_reducible refine peelB ?_) | (with_reducible refine peelTX ?_) | (with_reducible refine peelBX ?_) | (with_reducible refine peelBN ?_) | (with_reducible refine peelBO rfl ?_))
  exact retC1 (cs := B.sums) (.inr rfl) Try.results17 ag33 rfl (by repeat (first | exact Take1.head | apply Take1.tail)) rfl fun w' h => ⟨(), trivial, rfl, h.sub (by repeat (first | exact TakeL.nil | (apply TakeL.cons; · repeat (first | exact Take1.head | apply Take1.tail))))⟩

/-- What is kept along the calls. -/
structure Kp (d s : Int) (j : Nat) (B : Jb) (L : List (Int × Int)) : Prop where
  fw : B.Fwd
  hs : B.s = s
  same : Same L B.m
  len : L.length ≤ j
  vals : ∀ q ∈ B.m, ∃ v, q.2 = vW v ∧ 0 ≤ v ∧ v < 4294967296
  k : U6 B.k
  p : U6 B.p
  l : U6 B.l
  t : U6 B.t
  e : U6 B.e
  f : U6 B.f
theorem kp_init {d s : Int} (hd : U6 d) (hs : U6 s) : Kp d s 0 (Jb.init d s) [] := ⟨Jb.init_fwd hd hs, rfl, Same.nil, Nat.le_refl _, (fun _ h => nomatch h), U6_0, U6_0, U6_0, U6_0, U6_0, U6_0⟩
theorem Kp.up {d s : Int} {j : Nat} {B : Jb} {L : List (Int × Int)} (h : Kp d s j B L) : Kp d s (j + 1) B L := { h with len := Nat.le_succ_of_le h.len }
theorem some1_all (B : Jb) (ctr now : Int) : (B.some1 ctr now).s = B.s ∧ (B.some1 ctr now).m = B.m ∧ (B.some1 ctr now).k = B.k ∧ (B.some1 ctr now).p = B.p ∧ (B.some1 ctr now).l = B.l ∧ (B.some1 ctr now).t = B.t ∧ (B.some1 ctr now).e = B.e ∧ (B.some1 ctr now).f = B.f := by
  unfold Jb.some1
  split <;> exact ⟨rfl, rfl, rfl, rfl, rfl, rfl, rfl, rfl⟩
theorem Kp.put {d s : Int} {j : Nat} {B : Jb} {L L' : List (Int × Int)} {ctr now x : Int} (h : Kp d s j B L) (hc : U6 ctr) (hn : U6 now) (hx : 0 ≤ x ∧ x < 4294967296) (hS : Same L' (B.put ctr now (vW x)).1.m) (hl : L'.length ≤ L.length + 1) : Kp d s (j + 1) (B.put ctr now (vW x)).1 L' := by
  have hf := Jb.put_fwd (x := vW x) h.fw hc hn
  obtain ⟨a1, a2, a3, a4, a5, a6, a7, a8⟩ := some1_all B ctr now
  have hl' := h.len
  have key : ∀ C : Jb, B.some1 ctr now = C → (C.put0 ctr (vW x)).1.Fwd → Same L' (C.put0 ctr (vW x)).1.m → Kp d s (j + 1) (C.put0 ctr (vW x)).1 L' := by
    intro C hC hf hS
    rw [hC] at a1 a2 a3 a4 a5 a6 a7 a8
    have v0 : ∀ q ∈ C.m, ∃ v, q.2 = vW v ∧ 0 ≤ v ∧ v < 4294967296 := by rw [a2]; exact h.vals
    have k1 := h.k
    have k2 := h.p
    have k3 := h.l
    have k4 := h.t
    have k5 := h.e
    have k6 := h.f
    rw [← a3] at k1
    rw [← a4] at k2
    rw [← a5] at k3
    rw [← a6] at k4
    rw [← a7] at k5
    rw [← a8] at k6
    have hs := a1.trans h.hs
    unfold Jb.put0 at hf hS ⊢
    split at hf <;> rename_i c1
    · simp only [c1, if_true] at hS ⊢
      exact ⟨hf, hs, hS, by omega, v0, k1, k2, k3, wr_u _, k5, k6⟩
    · simp only [c1, if_false, Bool.false_eq_true] at hS ⊢
      split at hf <;> rename_i c2
      · simp only [c2, if_true] at hS ⊢
        exact ⟨hf, hs, hS, by omega, v0, k1, k2, k3, k4, wr_u _, k6⟩
      · simp only [c2, if_false, Bool.false_eq_true] at hS ⊢
        split at hf <;> rename_i c3
        · simp only [c3, if_true] at hS ⊢
          exact ⟨hf, hs, hS, by omega, v0, k1, k2, k3, k4, k5, wr_u _⟩
        · simp only [c3, if_false] at hS ⊢
          refine ⟨hf, hs, hS, by omega, fun q hq => ?_, wr_u _, k2, k3, k4, k5, k6⟩
          rcases mput_mem.1 hq with rfl | ⟨hq, _⟩
          · exact ⟨x, rfl, hx⟩
          · exact v0 q hq
  exact key _ rfl hf hS
theorem Kp.stepK {d s : Int} {j : Nat} {B : Jb} {L : List (Int × Int)} (h : Kp d s j B L) : ∀ k, (∀ q ∈ (gN B k).m, ∃ v, q.2 = vW v ∧ 0 ≤ v ∧ v < 4294967296) ∧ U6 (gN B k).k ∧ U6 (gN B k).p ∧ U6 (gN B k).l ∧ U6 (gN B k).t ∧ U6 (gN B k).e ∧ U6 (gN B k).f
  | 0 => ⟨h.vals, h.k, h.p, h.l, h.t, h.e, h.f⟩
  | k + 1 => by
    obtain ⟨h1, h2, h3, h4, h5, h6, h7⟩ := h.stepK k
    refine ⟨fun q hq => h1 q (mdel_mem.1 hq).1, h2, ?_, ?_, h5, h6, h7⟩
    · show U6 (if (mget (gN B k).m (gN B k).nx).isSome then wr ((gN B k).p + 1) else (gN B k).p)
      split
      · exact wr_u _
      · exact h3
    · show U6 (if (mget (gN B k).m (gN B k).nx).isSome then (gN B k).l else wr ((gN B k).l + 1))
      split
      · exact h4
      · exact wr_u _
theorem Kp.gone {d s : Int} {j : Nat} {B B' : Jb} {L L' : List (Int × Int)} (h : Kp d s j B L) (hf : B'.Fwd) (hB : ∃ k, B' = gN B k) (hS : Same L' B'.m) (hl : L'.length ≤ L.length) : Kp d s (j + 1) B' L' := by
  obtain ⟨k, rfl⟩ := hB
  obtain ⟨h1, h2, h3, h4, h5, h6, h7⟩ := h.stepK k
  exact ⟨hf, (gN_s B k).trans h.hs, hS, Nat.le_succ_of_le (Nat.le_trans hl h.len), h1, h2, h3, h4, h5, h6, h7⟩
theorem Kp.next {d s : Int} {j : Nat} {B : Jb} {L L' : List (Int × Int)} {now : Int} (h : Kp d s j B L) (hS : Same L' (B.next now (.int .u32 0)).1.m) (hl : L'.length ≤ L.length) : Kp d s (j + 1) (B.next now (.int .u32 0)).1 L' := by
  by_cases hd : B.isDue now = true
  · have e : (B.next now (.int .u32 0)).1 = B.step := by unfold Jb.next; rw [if_pos hd]
    rw [e] at hS ⊢
    exact h.gone (Jb.step_fwd h.fw (isDue_ne hd)).1 ⟨1, rfl⟩ hS hl
  · have e : (B.next now (.int .u32 0)).1 = B := by unfold Jb.next; rw [if_neg hd]
    rw [e] at hS ⊢
    exact h.gone h.fw ⟨0, rfl⟩ hS hl
theorem next_val {B : Jb} {L : List (Int × Int)} (h : Same L B.m) (now : Int) : ∃ v, (B.next now (.int .u32 0)).2.1 = .int .u32 v := by
  unfold Jb.next
  split
  · dsimp only
    rw [h.get, getW]
    exact ⟨_, rfl⟩
  · exact ⟨_, rfl⟩
theorem Kp.val {d s : Int} {j : Nat} {B : Jb} {L : List (Int × Int)} (h : Kp d s j B L) {p : Int × Int} (hp : p ∈ L) : U6 p.1 ∧ 0 ≤ p.2 ∧ p.2 < 4294967296 := by
  have hm : (p.1, vW p.2) ∈ B.m := h.same.perm.mem_iff.1 (List.mem_map.2 ⟨p, hp, rfl⟩)
  obtain ⟨v, h1, h2⟩ := h.vals _ hm
  have : p.2 = v := by injection h1
  rw [this]
  exact ⟨h.fw.ok.m _ hm, h2⟩
theorem wf32 {x : Int} (h : 0 ≤ x ∧ x < 4294967296) : (Lit.int .u32 x).wf = true := by
  rw [Lit.wf_int_iff]
  have e1 : IntKind.u32.min = 0 := by decide
  have e2 : IntKind.u32.max = 4294967295 := by decide
  rw [e1, e2]
  omega
theorem flTh : Flat Try.prog 46 [some .u64, some .u32] := Flat.mk' 5 (by decide) (by kernel_rfl) (by kernel_rfl)
theorem flA6 : Flat Try.prog 33 (List.replicate 6 (some .u64)) := Flat.mk' 5 (by decide) (by kernel_rfl) (by kernel_rfl)
theorem thFits {p : Int × Int} (h : U6 p.1 ∧ 0 ≤ p.2 ∧ p.2 < 4294967296) : Fits1 [some .u64, some .u32] (thC p) := ⟨⟨rfl, h.1.wf⟩, ⟨rfl, wf32 h.2⟩, trivial⟩
theorem Kp.fits {d s : Int} {j : Nat} {B : Jb} {L : List (Int × Int)} (h : Kp d s j B L) : Fits1 (List.replicate 6 (some .u64)) B.sums := ⟨⟨rfl, h.k.wf⟩, ⟨rfl, h.p.wf⟩, ⟨rfl, h.l.wf⟩, ⟨rfl, h.t.wf⟩, ⟨rfl, h.e.wf⟩, ⟨rfl, h.f.wf⟩, trivial⟩
theorem same_at {L : List (Int × Int)} {m : List (Int × Value)} (h : Same L m) {i : Nat} {k : Int} (hk : (asc (m.map (·.1)))[i]? = some k) : ∃ p, L[i]? = some p ∧ k = p.1 ∧ (mget m k).getD (.int .u32 0) = .int .u32 p.2 := by
  rw [same_asc h, List.getElem?_map] at hk
  obtain ⟨p, hp, rfl⟩ := Option.map_eq_some_iff.1 hk
  refine ⟨p, hp, rfl, ?_⟩
  rw [h.get, (mget_some h.nd).2 (List.mem_of_getElem? hp)]
  rfl

theorem plays_bad (d s : Int) (l : List Dj) (v : Value) (hd : U6 d) (hs : U6 s) (hmj : mayJ d s = false) (w : World) (hw : OK w (fpL [rdR v 5 l.length (vcs Dj.val l)]) [rdR v 5 l.length (vcs Dj.val l)] w) :
    Fn Try.prog 3 [.int .u64 d, .int .u64 s, v] [rdR v 5 l.length (vcs Dj.val l)] w (fun _ : Unit => True) (fun _ => .bool true) (fun _ => []) := by
  obtain ⟨al, cl, rfl, hcl, hml⟩ := (hw.get .head : Rd _ _ _ _ _).form
  refine enterM Try.func3 rfl Try.ntmps3 rfl hw ?_
  refine WC.seq ?_
  refine WC.region ?_
  refine WL.to (To.alloc (cs := [.bool false]) zr4 rfl) rfl ?_ -- t6
  intro b6
  refine WL.nil ?_
  refine WC.seq ?_
  refine WC.seq ?_
  refine WC.region ?_
  refine WL.callC (xs := []) (cap := []) rfl rfl en7 (by repeat (first | exact TakeL.nil | (apply TakeL.cons; · repeat (first | exact Take1.head | apply Take1.tail)))) (fun w hw => known_any w hw.left.here) rfl ?_ -- t27 hailer/hailerlaw39.known
  rintro ⟨⟩ -
  refine WL.y (Yl.not rfl) rfl ?_ -- t28
  refine WL.know (t := 28) (b' := false) rfl (by first | rfl | (simp; done) | (simp; omega)) ?_
  refine WL.nil ?_
  refine WC.condF rfl (by first | rfl | (simp; done) | (simp; omega)) ?_
  refine WC.skip ?_
  refine WC.seq ?_
  refine WC.seq ?_
  refine WC.region ?_
  refine WL.y (Yl.move rfl) rfl ?_ -- t29
  refine WL.y (Yl.len un23 rfl) rfl ?_ -- t30
  refine WL.y (Yl.gtr rfl rfl) rfl ?_ -- t31
  refine WL.nil ?_
  refine WC.condD rfl (fun g31 => ?_) (fun g31 => ?_)
  · refine WC.seq ?_
    refine WC.region ?_
    refine WL.sto (Sto.one sz4 rfl rfl (by repeat (first | exact Take1.head | apply Take1.tail)) rfl (by rfl) (by rfl)) (fun _ h => nomatch h) ?_ -- st 2
    refine WL.nil ?_
    refine WC.ret ?_
    repeat (first | (with_reducible refine peelT ?_) | (with_reducible refine peelB ?_) | (with_reducible refine peelTX ?_) | (with_reducible refine peelBX ?_) | (with_reducible refine peelBN ?_) | (with_reducible refine peelBO rfl ?_))
    refine retM.of .nil ?_
    exact retV1 (.inr rfl) Try.results3 on4 rfl (by repeat (first | exact Take1.head | apply Take1.tail)) fun w' h => ⟨(), trivial, rfl, h.sub (by repeat (first | exact TakeL.nil | (apply TakeL.cons; · repeat (first | exact Take1.head | apply Take1.tail))))⟩
  · refine WC.skip ?_
    refine WC.seq ?_
    refine WC.region ?_
    refine WL.y (Yl.move rfl) rfl ?_ -- t33
    refine WL.y (Yl.move rfl) rfl ?_ -- t34
    refine WL.callC (xs := [.tmp 33, .tmp 34]) (cap := []) rfl rfl en8 (by repeat (first | exact TakeL.nil | (apply TakeL.cons; · repeat (first | exact Take1.head | apply Take1.tail)))) (fun w hw => newU_bad' d s hmj hd hs w hw.left.here) rfl ?_ -- t35 hailer/jitter.New[uint32]
    rintro ⟨⟩ -
    refine WL.y (Yl.move rfl) rfl ?_ -- t32
    refine WL.y (Yl.extract rfl rfl) rfl ?_ -- t36
    refine WL.y (Yl.extract rfl rfl) rfl ?_ -- t37
    refine WL.y (Yl.assign rfl) rfl ?_ -- t7
    refine WL.y (Yl.assign rfl) rfl ?_ -- t8
    refine WL.nil ?_
    refine WC.seq ?_
    refine WC.seq ?_
    refine WC.region ?_
    refine WL.y (Yl.move rfl) rfl ?_ -- t38
    refine WL.y (Yl.move rfl) rfl ?_ -- t39
    refine WL.callC (xs := [.tmp 38, .tmp 39]) (cap := []) rfl rfl en9 (by repeat (first | exact TakeL.nil | (apply TakeL.cons; · repeat (first | exact Take1.head | apply Take1.tail)))) (fun w hw => may_any d s w hw.left.here) rfl ?_ -- t40 hailer/hailerref39.May
    rintro ⟨⟩ -
    rw [hmj]
    refine WL.y (Yl.not rfl) rfl ?_ -- t41
    refine WL.know (t := 41) (b' := true) rfl (by first | rfl | (simp; done) | (simp; omega)) ?_
    refine WL.nil ?_
    refine WC.condT rfl (by first | rfl | (simp; done) | (simp; omega)) ?_
    refine WC.seq ?_
    refine WC.region ?_
    refine WL.y (Yl.move rfl) rfl ?_ -- t42
    refine WL.y (Yl.nilEq un25 rfl rfl) rfl ?_ -- t43
    refine WL.know (t := 43) (b' := true) rfl (by first | rfl | (simp; done) | (simp; omega)) ?_
    refine WL.y (Yl.move rfl) rfl ?_ -- t44
    refine WL.on rfl rfl ?_
    refine WL.y (Yl.move rfl) rfl ?_ -- t45
    refine WL.on rfl rfl ?_
    refine WL.y (Yl.eql rfl rfl) rfl ?_ -- t46
    refine WL.know (t := 46) (b' := true) rfl (by first | rfl | (simp; done) | (simp; omega)) ?_
    refine WL.y (Yl.pickT rfl rfl) rfl ?_ -- t47
    refine WL.know (t := 47) (b' := true) rfl (by first | rfl | (simp; done) | (simp; omega)) ?_
    refine WL.sto (Sto.one sz4 rfl rfl (by repeat (first | exact Take1.head | apply Take1.tail)) rfl (by rfl) (by rfl)) (fun _ h => nomatch h) ?_ -- st 3
    refine WL.nil ?_
    refine WC.ret ?_
    repeat (first | (with_reducible refine peelT ?_) | (with_reducible refine peelB ?_) | (with_reducible refine peelTX ?_) | (with_reducible refine peelBX ?_) | (with_reducible refine peelBN ?_) | (with_reducible refine peelBO rfl ?_))
    refine retM.of .nil ?_
    exact retV1 (.inr rfl) Try.results3 on4 rfl (by repeat (first | exact Take1.head | apply Take1.tail)) fun w' h => ⟨(), trivial, rfl, h.sub (by repeat (first | exact TakeL.nil | (apply TakeL.cons; · repeat (first | exact Take1.head | apply Take1.tail))))⟩
end Go.Proofs.Ytklbmgfpnafdlaa

namespace Go.Proofs.Ytklbmgfpnafdlaa
open Go Go.RowKit

/-- A state between two calls. -/
structure Ks where
  B : Jb
  ao : Option Addr
  ca : Nat
  L : List (Int × Int)
  Dl : List Nat
theorem max1 {i : Nat} {m : Int} {n : Nat} (h : i = 0 ∨ (i : Int) < m) (hi : i < n) (hm : m ≤ ((i + 1 : Nat) : Int)) : (((i + 1 : Nat) : Int) = if (if (1 : Int) > m then 1 else m) < (n : Int) then (if (1 : Int) > m then 1 else m) else (n : Int)) := by
  split <;> split at * <;> omega
theorem max2 {n : Nat} {m : Int} (h : n = 0 ∨ (n : Int) < m ∨ True) (h2 : n = 0 ∨ (n : Int) < m) : ((n : Int) = if (if (1 : Int) > m then 1 else m) < (n : Int) then (if (1 : Int) > m then 1 else m) else (n : Int)) := by
  split <;> split at * <;> omega

set_option maxHeartbeats 1600000 in
set_option maxRecDepth 100000 in
theorem plays_good (d s : Int) (l : List Dj) (v : Value) (hG : ∀ x ∈ l, x.ok) (hd : 0 ≤ d ∧ d ≤ 4294967296) (hs : 0 < s ∧ s ≤ 4294967296) (hmj : mayJ d s = true) (w : World) (hw : OK w (fpL [rdR v 5 l.length (vcs Dj.val l)]) [rdR v 5 l.length (vcs Dj.val l)] w) :
    Fn Try.prog 3 [.int .u64 d, .int .u64 s, v] [rdR v 5 l.length (vcs Dj.val l)] w (fun _ : Unit => True) (fun _ => .bool true) (fun _ => []) := by
  obtain ⟨al, cl, rfl, hcl, hml⟩ := (hw.get .head : Rd _ _ _ _ _).form
  refine enterM Try.func3 rfl Try.ntmps3 rfl hw ?_
  refine WC.seq ?_
  refine WC.region ?_
  refine WL.to (To.alloc (cs := [.bool false]) zr4 rfl) rfl ?_ -- t6
  intro b6
  refine WL.nil ?_
  refine WC.seq ?_
  refine WC.seq ?_
  refine WC.region ?_
  refine WL.callC (xs := []) (cap := []) rfl rfl en7 (by repeat (first | exact TakeL.nil | (apply TakeL.cons; · repeat (first | exact Take1.head | apply Take1.tail)))) (fun w hw => known_any w hw.left.here) rfl ?_ -- t27 hailer/hailerlaw39.known
  rintro ⟨⟩ -
  refine WL.y (Yl.not rfl) rfl ?_ -- t28
  refine WL.know (t := 28) (b' := false) rfl (by first | rfl | (simp; done) | (simp; omega)) ?_
  refine WL.nil ?_
  refine WC.condF rfl (by first | rfl | (simp; done) | (simp; omega)) ?_
  refine WC.skip ?_
  refine WC.seq ?_
  refine WC.seq ?_
  refine WC.region ?_
  refine WL.y (Yl.move rfl) rfl ?_ -- t29
  refine WL.y (Yl.len un23 rfl) rfl ?_ -- t30
  refine WL.y (Yl.gtr rfl rfl) rfl ?_ -- t31
  refine WL.nil ?_
  refine WC.condD rfl (fun g31 => ?_) (fun g31 => ?_)
  · refine WC.seq ?_
    refine WC.region ?_
    refine WL.sto (Sto.one sz4 rfl rfl (by repeat (first | exact Take1.head | apply Take1.tail)) rfl (by rfl) (by rfl)) (fun _ h => nomatch h) ?_ -- st 2
    refine WL.nil ?_
    refine WC.ret ?_
    repeat (first | (with_reducible refine peelT ?_) | (with_reducible refine peelB ?_) | (with_reducible refine peelTX ?_) | (with_reducible refine peelBX ?_) | (with_reducible refine peelBN ?_) | (with_reducible refine peelBO rfl ?_))
    refine retM.of .nil ?_
    exact retV1 (.inr rfl) Try.results3 on4 rfl (by repeat (first | exact Take1.head | apply Take1.tail)) fun w' h => ⟨(), trivial, rfl, h.sub (by repeat (first | exact TakeL.nil | (apply TakeL.cons; · repeat (first | exact Take1.head | apply Take1.tail))))⟩
  · refine WC.skip ?_
    refine WC.seq ?_
    have hl200 : l.length ≤ 200 := by omega
    refine WC.region ?_
    refine WL.y (Yl.move rfl) rfl ?_ -- t33
    refine WL.y (Yl.move rfl) rfl ?_ -- t34
    refine WL.callC (xs := [.tmp 33, .tmp 34]) (cap := []) rfl rfl en8 (by repeat (first | exact TakeL.nil | (apply TakeL.cons; · repeat (first | exact Take1.head | apply Take1.tail)))) (fun w hw => newU_any d s hd hs w hw.left.here) rfl ?_ -- t35 hailer/jitter.New[uint32]
    rintro ⟨b, m⟩ -
    dsimp only [jb, List.cons_append, List.nil_append]
    refine WL.y (Yl.move rfl) rfl ?_ -- t32
    refine WL.y (Yl.extract rfl rfl) rfl ?_ -- t36
    refine WL.y (Yl.extract rfl rfl) rfl ?_ -- t37
    refine WL.y (Yl.assign rfl) rfl ?_ -- t7
    refine WL.y (Yl.assign rfl) rfl ?_ -- t8
    refine WL.nil ?_
    refine WC.seq ?_
    refine WC.seq ?_
    refine WC.region ?_
    refine WL.y (Yl.move rfl) rfl ?_ -- t38
    refine WL.y (Yl.move rfl) rfl ?_ -- t39
    refine WL.callC (xs := [.tmp 38, .tmp 39]) (cap := []) rfl rfl en9 (by repeat (first | exact TakeL.nil | (apply TakeL.cons; · repeat (first | exact Take1.head | apply Take1.tail)))) (fun w hw => may_any d s w hw.left.here) rfl ?_ -- t40 hailer/hailerref39.May
    rintro ⟨⟩ -
    rw [hmj]
    refine WL.y (Yl.not rfl) rfl ?_ -- t41
    refine WL.know (t := 41) (b' := false) rfl (by first | rfl | (simp; done) | (simp; omega)) ?_
    refine WL.nil ?_
    refine WC.condF rfl (by first | rfl | (simp; done) | (simp; omega)) ?_
    refine WC.skip ?_
    refine WC.seq ?_
    refine WC.region ?_
    refine WL.y (Yl.move rfl) rfl ?_ -- t48
    refine WL.y (Yl.move rfl) rfl ?_ -- t49
    refine WL.y (Yl.build rfl (cs := (Jb.init d s).rcells (.slice none 0 0)) (fun _ => by kernel_rfl)) rfl ?_ -- t50
    refine WL.to (To.box (cs := (Jb.init d s).rcells (.slice none 0 0)) rfl rfl) rfl ?_ -- t51
    intro b51
    refine WL.to (To.alloc (cs := [.pointer none]) zr31 rfl) rfl ?_ -- t9
    intro b9
    refine WL.sto (Sto.one sz31 rfl rfl (by repeat (first | exact Take1.head | apply Take1.tail)) rfl (by rfl) (by rfl)) (fun _ h => nomatch h) ?_ -- st 4
    refine WL.nil ?_
    refine WC.seq ?_
    refine WC.seq ?_
    refine WC.region ?_
    refine WL.y (Yl.move rfl) rfl ?_ -- t52
    refine WL.y (Yl.len un23 rfl) rfl ?_ -- t53
    refine WL.y (Yl.move rfl) rfl ?_ -- t54
    refine WL.nil ?_
    refine WC.block ?_
    refine WC.view (fun w h => h.mark0) ?_
    refine WC.view (fun w h => h.addNil 46 2) ?_
    refine WC.loopM (α := Nat × Ks) (fun p => [(6, .pointer (some ⟨b6, 0, none⟩)), (7, .pointer (some ⟨b, 0, none⟩)), (9, .pointer (some ⟨b9, 0, none⟩)), (52, .slice al l.length cl), (53, .int .i64 (l.length : Int)), (54, .int .i64 (p.1 : Int))]) (fun p => [markR p.2.Dl, blkR b6 4 [.bool false], blkR b9 31 [.pointer (some ⟨b51, 0, none⟩)], blkR b 97 (p.2.B.cells m), mapR (Value.int .u64) vI m p.2.B.m, blkR b51 35 (p.2.B.rcells (.slice p.2.ao p.2.L.length p.2.ca)), ownR (.slice p.2.ao p.2.L.length p.2.ca) 46 2 p.2.L.length (vcs thV p.2.L), rdR (.slice al l.length cl) 5 l.length (vcs Dj.val l)]) (fun p => p.2.Dl.map dM) (fun p => p.1 ≤ l.length ∧ Kp d s p.1 p.2.B p.2.L) (fun p => l.length - p.1) (0, ⟨Jb.init d s, none, 0, [], []⟩) ⟨Nat.zero_le _, kp_init ⟨hd.1, by omega⟩ ⟨by omega, by omega⟩⟩ rfl ⟨(by repeat (first | exact Sub.nil | refine Sub.cons rfl ?_)), _, (by repeat (first | exact TakeL.nil | (apply TakeL.cons; · repeat (first | exact Take1.head | apply Take1.tail))))⟩ ?_
    rintro ⟨j, ⟨B, ao, ca, L, Dl⟩⟩ ⟨hj, hI⟩
    dsimp only at hj hI ⊢
    refine WC.seq ?_
    refine WC.region ?_
    refine WL.y (Yl.lss rfl rfl) rfl ?_ -- t55
    refine WL.nil ?_
    refine WC.seq ?_
    refine WC.condD rfl (fun g55 => ?_) (fun g55 => ?_)
    · refine WC.skip ?_
      refine WC.seq ?_
      refine WC.block ?_
      refine WC.seq ?_
      refine WC.region ?_
      have hjl : j < l.length := by omega
      obtain ⟨x, hx0⟩ : ∃ x, l[j]? = some x := ⟨_, List.getElem?_eq_getElem hjl⟩
      have hxo : x.ok := hG x (List.mem_of_getElem? hx0)
      have hLl := hI.len
      have hS := hI.same
      have hml2 := hS.len
      have hsB : 0 < B.s := by rw [hI.hs]; exact hs.1
      refine WL.y (Yl.index un23 sz37 rfl rfl (Reads.of (r := rdR (.slice al l.length cl) 5 l.length (vcs Dj.val l)) RdOf.rd' (by repeat (first | exact Take1.head | apply Take1.tail))) rfl (by omega)) rfl ?_ -- t56
      refine WL.y (Yl.loadV (j := j) (u := x) vtD hG rfl (Reads.of (r := rdR (.slice al l.length cl) 5 l.length (vcs Dj.val l)) RdOf.rd' (by repeat (first | exact Take1.head | apply Take1.tail))) rfl hx0) rfl ?_
      refine WL.to (To.alloc (cs := Dj.zero.cells) zr37 rfl) rfl ?_ -- t11
      intro b11
      refine WL.sto (Sto.agg sz37 rfl rfl (by repeat (first | exact Take1.head | apply Take1.tail)) (Dj.ones _) rfl (by rfl) (show _ = x.cells from rfl)) (fun _ h => nomatch h) ?_ -- st 5
      refine WL.nil ?_
      refine WC.seq ?_
      refine WC.region ?_
      refine WL.y (Yl.assign rfl) rfl ?_ -- t12
      refine WL.nil ?_
      refine WC.midM (α := Ks) (fun _ => [(12, .bool true), (6, .pointer (some ⟨b6, 0, none⟩)), (7, .pointer (some ⟨b, 0, none⟩)), (9, .pointer (some ⟨b9, 0, none⟩)), (52, .slice al l.length cl), (53, .int .i64 (l.length : Int)), (54, .int .i64 (j : Int))]) (fun k => [markR k.Dl, blkR b6 4 [.bool false], blkR b9 31 [.pointer (some ⟨b51, 0, none⟩)], blkR b 97 (k.B.cells m), mapR (Value.int .u64) vI m k.B.m, blkR b51 35 (k.B.rcells (.slice k.ao k.L.length k.ca)), ownR (.slice k.ao k.L.length k.ca) 46 2 k.L.length (vcs thV k.L), rdR (.slice al l.length cl) 5 l.length (vcs Dj.val l)]) (fun k => Kp d s (j + 1) k.B k.L) (fun k => k.Dl.map dM) ?_ ?_
      · refine WC.seq ?_
        refine WC.region ?_
        refine WL.y (Yl.field fo37_0 rfl) rfl ?_ -- t58
        refine WL.y (Yl.load on5 rfl (by repeat (first | exact Take1.head | apply Take1.tail)) (by rfl)) rfl ?_ -- t59
        refine WL.nil ?_
        refine WC.block ?_
        refine WC.seq ?_
        refine WC.region ?_
        refine WL.y (Yl.eql rfl rfl) rfl ?_ -- t102
        refine WL.y (Yl.assign rfl) rfl ?_ -- t101
        refine WL.nil ?_
        refine WC.condD rfl (fun g101 => ?_) (fun g101 => ?_)
        · refine WC.drawAny (Hs := [blkR b11 37 x.cells, blkR b9 31 [.pointer (some ⟨b51, 0, none⟩)]]) mixed (by kernel_rfl) ⟨_, (by repeat (first | exact TakeL.nil | (apply TakeL.cons; · repeat (first | exact Take1.head | apply Take1.tail))))⟩ ?_
          refine WD.take 0 rfl (by kernel_rfl) (by kernel_rfl) (by kernel_rfl) rfl rfl (Yl.move rfl) rfl ?_ -- t103
          refine WD.take 1 rfl (by kernel_rfl) (by kernel_rfl) (by kernel_rfl) rfl rfl (Yl.field fo37_1 rfl) rfl ?_ -- t104
          refine WD.take 2 rfl (by kernel_rfl) (by kernel_rfl) (by kernel_rfl) rfl rfl (Yl.load on22 rfl (by repeat (first | exact Take1.head | apply Take1.tail)) (by rfl)) rfl ?_ -- t105
          refine WD.take 3 rfl (by kernel_rfl) (by kernel_rfl) (by kernel_rfl) rfl rfl (Yl.field fo37_2 rfl) rfl ?_ -- t106
          refine WD.take 4 rfl (by kernel_rfl) (by kernel_rfl) (by kernel_rfl) rfl rfl (Yl.load on22 rfl (by repeat (first | exact Take1.head | apply Take1.tail)) (by rfl)) rfl ?_ -- t107
          refine WD.take 5 rfl (by kernel_rfl) (by kernel_rfl) (by kernel_rfl) rfl rfl (Yl.field fo37_3 rfl) rfl ?_ -- t108
          refine WD.take 6 rfl (by kernel_rfl) (by kernel_rfl) (by kernel_rfl) rfl rfl (Yl.load on29 rfl (by repeat (first | exact Take1.head | apply Take1.tail)) (by rfl)) rfl ?_ -- t109
          refine WD.take 8 rfl (by kernel_rfl) (by kernel_rfl) (by kernel_rfl) rfl rfl (Yl.load on31 rfl (by repeat (first | exact Take1.head | apply Take1.tail)) (by rfl)) rfl ?_ -- t111
          refine WD.take 9 rfl (by kernel_rfl) (by kernel_rfl) (by kernel_rfl) rfl rfl (Yl.field fo37_1 rfl) rfl ?_ -- t112
          refine WD.take 10 rfl (by kernel_rfl) (by kernel_rfl) (by kernel_rfl) rfl rfl (Yl.load on22 rfl (by repeat (first | exact Take1.head | apply Take1.tail)) (by rfl)) rfl ?_ -- t113
          refine WD.take 11 rfl (by kernel_rfl) (by kernel_rfl) (by kernel_rfl) rfl rfl (Yl.field fo37_2 rfl) rfl ?_ -- t114
          refine WD.take 12 rfl (by kernel_rfl) (by kernel_rfl) (by kernel_rfl) rfl rfl (Yl.load on22 rfl (by repeat (first | exact Take1.head | apply Take1.tail)) (by rfl)) rfl ?_ -- t115
          refine WD.take 13 rfl (by kernel_rfl) (by kernel_rfl) (by kernel_rfl) rfl rfl (Yl.field fo37_3 rfl) rfl ?_ -- t116
          refine WD.take 14 rfl (by kernel_rfl) (by kernel_rfl) (by kernel_rfl) rfl rfl (Yl.load on29 rfl (by repeat (first | exact Take1.head | apply Take1.tail)) (by rfl)) rfl ?_ -- t117
          refine WD.one 7 (by kernel_rfl) ?_
          refine WO.callC (xs := [.tmp 103, .tmp 105, .tmp 107, .tmp 109]) (cap := []) rfl .no rfl rfl en10 (by repeat (first | exact TakeL.nil | (apply TakeL.cons; · repeat (first | exact Take1.head | apply Take1.tail)))) (fun w hw => putU_any b m B x.c x.n (vW x.x) hI.fw.ok hxo.c hxo.n w hw.left.here) rfl (fun _ => ⟨_, (by repeat (first | exact TakeL.nil | (apply TakeL.cons; · repeat (first | exact Take1.head | apply Take1.tail))))⟩) ?_ -- t110 (*hailer/jitter.Buffer[uint32]).Put
          rintro ⟨⟩ -
          dsimp only [jb, List.cons_append, List.nil_append]
          refine WD.one 15 (by kernel_rfl) ?_
          refine WO.callC (xs := [.tmp 111, .tmp 113, .tmp 115, .tmp 117]) (cap := []) rfl .no rfl rfl en11 (by repeat (first | exact TakeL.nil | (apply TakeL.cons; · repeat (first | exact Take1.head | apply Take1.tail)))) (fun w hw => rput_any b51 ao ca B L x.c x.n x.x hI.fw.ok hS (by omega) hxo.c hxo.n w hw.left.here) rfl (fun _ => ⟨_, (by repeat (first | exact TakeL.nil | (apply TakeL.cons; · repeat (first | exact Take1.head | apply Take1.tail))))⟩) ?_ -- t118 (*hailer/hailerref39.Buffer).Put
          rintro ⟨⟨ao1, ca1⟩, L1⟩ ⟨hS1, hl1⟩
          dsimp only [rfR, List.cons_append, List.nil_append] at hS1 hl1 ⊢
          refine WD.take 16 rfl (by kernel_rfl) (by kernel_rfl) (by kernel_rfl) rfl rfl (Yl.eql rfl rfl) rfl ?_ -- t119
          refine WD.know (t := 119) (b' := true) rfl (by simp) ?_
          refine WD.take 17 rfl (by kernel_rfl) (by kernel_rfl) (by kernel_rfl) rfl rfl (Yl.assign rfl) rfl ?_ -- t12
          refine WD.done (by kernel_rfl) ?_
          exact ⟨⟨(B.put x.c x.n (vW x.x)).1, ao1, ca1, L1, Dl⟩, rfl, hI.put hxo.c hxo.n hxo.x hS1 hl1, (by repeat (first | exact Sub.nil | refine Sub.cons rfl ?_)), _, (by repeat (first | exact TakeL.nil | (apply TakeL.cons; · repeat (first | exact Take1.head | apply Take1.tail))))⟩
        · refine WC.seq ?_
          refine WC.region ?_
          refine WL.y (Yl.eql rfl rfl) rfl ?_ -- t121
          refine WL.y (Yl.assign rfl) rfl ?_ -- t120
          refine WL.nil ?_
          refine WC.condD rfl (fun g120 => ?_) (fun g120 => ?_)
          · refine WC.seq ?_
            refine WC.region ?_
            refine WL.y (Yl.move rfl) rfl ?_ -- t123
            refine WL.y (Yl.field fo37_2 rfl) rfl ?_ -- t124
            refine WL.y (Yl.load on22 rfl (by repeat (first | exact Take1.head | apply Take1.tail)) (by rfl)) rfl ?_ -- t125
            refine WL.callC (xs := [.tmp 123, .tmp 125]) (cap := []) rfl rfl en12 (by repeat (first | exact TakeL.nil | (apply TakeL.cons; · repeat (first | exact Take1.head | apply Take1.tail)))) (fun w hw => nextU_any b m B x.n hI.fw.ok w hw.left.here) rfl ?_ -- t126 (*hailer/jitter.Buffer[uint32]).Next
            rintro ⟨⟩ -
            dsimp only [jb, List.cons_append, List.nil_append]
            refine WL.y (Yl.move rfl) rfl ?_ -- t122
            refine WL.y (Yl.extract rfl rfl) rfl ?_ -- t127
            refine WL.y (Yl.extract rfl rfl) rfl ?_ -- t128
            refine WL.y (Yl.extract rfl rfl) rfl ?_ -- t129
            refine WL.y (Yl.extract rfl rfl) rfl ?_ -- t130
            refine WL.y (Yl.assign rfl) rfl ?_ -- t13
            refine WL.y (Yl.assign rfl) rfl ?_ -- t14
            refine WL.y (Yl.assign rfl) rfl ?_ -- t15
            refine WL.y (Yl.assign rfl) rfl ?_ -- t16
            refine WL.nil ?_
            refine WC.seq ?_
            refine WC.region ?_
            refine WL.y (Yl.load on31 rfl (by repeat (first | exact Take1.head | apply Take1.tail)) (by rfl)) rfl ?_ -- t132
            refine WL.y (Yl.field fo37_2 rfl) rfl ?_ -- t133
            refine WL.y (Yl.load on22 rfl (by repeat (first | exact Take1.head | apply Take1.tail)) (by rfl)) rfl ?_ -- t134
            refine WL.callC (xs := [.tmp 132, .tmp 134]) (cap := []) rfl rfl en13 (by repeat (first | exact TakeL.nil | (apply TakeL.cons; · repeat (first | exact Take1.head | apply Take1.tail)))) (fun w hw => rask_any b51 ao ca B L x.n hI.fw hsB hS (by omega) w hw.left.here) rfl ?_ -- t135 (*hailer/hailerref39.Buffer).Ask
            rintro ⟨⟨ao1, ca1⟩, L1⟩ ⟨hS1, hl1⟩
            dsimp only [rfR, List.cons_append, List.nil_append] at hS1 hl1 ⊢
            refine WL.y (Yl.move rfl) rfl ?_ -- t131
            refine WL.y (Yl.extract rfl rfl) rfl ?_ -- t136
            refine WL.y (Yl.extract rfl rfl) rfl ?_ -- t137
            refine WL.y (Yl.extract rfl rfl) rfl ?_ -- t138
            refine WL.y (Yl.extract rfl rfl) rfl ?_ -- t139
            refine WL.y (Yl.assign rfl) rfl ?_ -- t17
            refine WL.y (Yl.assign rfl) rfl ?_ -- t18
            refine WL.y (Yl.assign rfl) rfl ?_ -- t19
            refine WL.y (Yl.assign rfl) rfl ?_ -- t20
            refine WL.nil ?_
            have hKn := hI.next hS1 hl1
            obtain ⟨vv, hvv⟩ := next_val hS x.n
            rw [hvv]
            refine WC.region ?_
            refine WL.y (Yl.move rfl) rfl ?_ -- t140
            refine WL.y (Yl.move rfl) rfl ?_ -- t141
            refine WL.y (Yl.eql rfl rfl) rfl ?_ -- t142
            refine WL.know (t := 142) (b' := true) rfl (by simp) ?_
            refine WL.y (Yl.move rfl) rfl ?_ -- t143
            refine WL.on rfl rfl ?_
            refine WL.y (Yl.move rfl) rfl ?_ -- t144
            refine WL.on rfl rfl ?_
            refine WL.y (Yl.move rfl) rfl ?_ -- t145
            refine WL.on rfl rfl ?_
            refine WL.y (Yl.eql rfl rfl) rfl ?_ -- t146
            refine WL.know (t := 146) (b' := true) rfl (by simp) ?_
            refine WL.y (Yl.pickT rfl rfl) rfl ?_ -- t147
            refine WL.know (t := 147) (b' := true) rfl (by first | rfl | (simp; done) | (simp; omega)) ?_
            refine WL.y (Yl.move rfl) rfl ?_ -- t148
            refine WL.on rfl rfl ?_
            refine WL.y (Yl.move rfl) rfl ?_ -- t149
            refine WL.on rfl rfl ?_
            refine WL.y (Yl.move rfl) rfl ?_ -- t150
            refine WL.on rfl rfl ?_
            refine WL.y (Yl.bEq un4 rfl rfl) rfl ?_ -- t151
            refine WL.know (t := 151) (b' := true) rfl (by simp) ?_
            refine WL.y (Yl.pickT rfl rfl) rfl ?_ -- t152
            refine WL.know (t := 152) (b' := true) rfl (by first | rfl | (simp; done) | (simp; omega)) ?_
            refine WL.y (Yl.move rfl) rfl ?_ -- t153
            refine WL.on rfl rfl ?_
            refine WL.y (Yl.move rfl) rfl ?_ -- t154
            refine WL.on rfl rfl ?_
            refine WL.y (Yl.move rfl) rfl ?_ -- t155
            refine WL.on rfl rfl ?_
            refine WL.y (Yl.bEq un4 rfl rfl) rfl ?_ -- t156
            refine WL.know (t := 156) (b' := true) rfl (by simp) ?_
            refine WL.y (Yl.pickT rfl rfl) rfl ?_ -- t157
            refine WL.know (t := 157) (b' := true) rfl (by first | rfl | (simp; done) | (simp; omega)) ?_
            refine WL.y (Yl.assign rfl) rfl ?_ -- t12
            refine WL.nil ?_
            exact ⟨⟨(B.next x.n (.int .u32 0)).1, ao1, ca1, L1, Dl⟩, rfl, hKn, (by repeat (first | exact Sub.nil | refine Sub.cons rfl ?_)), _, (by repeat (first | exact TakeL.nil | (apply TakeL.cons; · repeat (first | exact Take1.head | apply Take1.tail))))⟩
          · refine WC.seq ?_
            refine WC.region ?_
            refine WL.y (Yl.eql rfl rfl) rfl ?_ -- t159
            refine WL.y (Yl.assign rfl) rfl ?_ -- t158
            refine WL.nil ?_
            refine WC.condD rfl (fun g158 => ?_) (fun g158 => ?_)
            · refine WC.region ?_
              refine WL.y (Yl.move rfl) rfl ?_ -- t160
              refine WL.y (Yl.load on31 rfl (by repeat (first | exact Take1.head | apply Take1.tail)) (by rfl)) rfl ?_ -- t161
              refine WL.y (Yl.field fo37_2 rfl) rfl ?_ -- t162
              refine WL.y (Yl.load on22 rfl (by repeat (first | exact Take1.head | apply Take1.tail)) (by rfl)) rfl ?_ -- t163
              refine WL.y (Yl.field fo37_4 rfl) rfl ?_ -- t164
              refine WL.y (Yl.load on3 rfl (by repeat (first | exact Take1.head | apply Take1.tail)) (by rfl)) rfl ?_ -- t165
              refine WL.callC (xs := [.tmp 160, .tmp 161, .tmp 163, .tmp 165]) (cap := []) rfl rfl en14 (by repeat (first | exact TakeL.nil | (apply TakeL.cons; · repeat (first | exact Take1.head | apply Take1.tail)))) (fun w hw => plays_any b m b51 ao ca B L x.n x.m hI.fw hsB hS (by omega) w hw.left.here) rfl ?_ -- t166 hailer/hailerlaw39.plays
              rintro ⟨B1, ⟨ao1, ca1⟩, L1⟩ ⟨⟨hF1, hs1, hk1⟩, hS1, hl1⟩
              dsimp only [jb, rfR, List.cons_append, List.nil_append] at hF1 hs1 hk1 hS1 hl1 ⊢
              refine WL.y (Yl.assign rfl) rfl ?_ -- t12
              refine WL.nil ?_
              exact ⟨⟨B1, ao1, ca1, L1, Dl⟩, rfl, hI.gone hF1 hk1 hS1 hl1, (by repeat (first | exact Sub.nil | refine Sub.cons rfl ?_)), _, (by repeat (first | exact TakeL.nil | (apply TakeL.cons; · repeat (first | exact Take1.head | apply Take1.tail))))⟩
            · refine WC.seq ?_
              refine WC.region ?_
              refine WL.to (To.alloc (cs := [.int .i64 0]) zr3 rfl) rfl ?_ -- t21
              intro b21
              refine WL.sto (Sto.one sz3 rfl rfl (by repeat (first | exact Take1.head | apply Take1.tail)) rfl (by rfl) (by rfl)) (fun _ h => nomatch h) ?_ -- st 6
              refine WL.nil ?_
              refine WC.seq ?_
              refine WC.seq ?_
              refine WC.region ?_
              refine WL.y (Yl.move rfl) rfl ?_ -- t60
              refine WL.callC (xs := [.tmp 60]) (cap := []) rfl rfl en15 (by repeat (first | exact TakeL.nil | (apply TakeL.cons; · repeat (first | exact Take1.head | apply Take1.tail)))) (fun w hw => alP_any b w hw.left.here) rfl ?_ -- t61 (*hailer/jitter.Buffer[uint32]).All
              rintro b1 -
              dsimp only [List.cons_append, List.nil_append]
              refine WL.nil ?_
              refine WC.block ?_
              refine WC.rangeW (α := Unit) (A := alR 25 97 b1 b m B) (E := alR 25 97 b1 b m B) (Ex := fun _ => alR 25 97 b1 b m B) (lb := [.pointer (some ⟨b1, 0, none⟩)]) (xs := ysAU B.m) (fun i _ => [blkR b11 37 x.cells, blkR b9 31 [.pointer (some ⟨b51, 0, none⟩)], blkR b51 35 (B.rcells (.slice ao L.length ca)), ownR (.slice ao L.length ca) 46 2 L.length (vcs thV L), blkR b21 3 [.int .i64 (i : Int)]]) (fun i _ => i = 0 ∨ (i : Int) < x.m) () rfl en42 ysAU_size rfl (by repeat (first | exact TakeL.nil | (apply TakeL.cons; · repeat (first | exact Take1.head | apply Take1.tail)))) (al_iterP b1 b m B hI.fw.ok (by omega)) rfl (fun _ => rfl) (.inl rfl) (by repeat (first | exact TakeL.nil | (apply TakeL.cons; · repeat (first | exact Take1.head | apply Take1.tail)))) ?_ ?_
              · rintro l2 i y _ hy hix W
                obtain ⟨k, hk, rfl⟩ := ysA_at hy
                obtain ⟨p, hp, rfl, hpv⟩ := same_at hS hk
                have hil : i < L.length := (List.getElem?_eq_some_iff.1 hp).1
                have hpf := thFits (hI.val (List.mem_of_getElem? hp))
                rw [hpv]
                show WC _ _ _ ((63, .int .u32 p.2) :: (62, .int .u64 p.1) :: _) _ _
                refine WC.seq ?_
                refine WC.region ?_
                refine WL.y (Yl.assign rfl) rfl ?_ -- t22
                refine WL.nil ?_
                refine WC.region ?_
                refine WL.y (Yl.assign rfl) rfl ?_ -- t23
                refine WL.nil ?_
                repeat (first | (with_reducible refine peelT ?_) | (with_reducible refine peelB ?_) | (with_reducible refine peelTX ?_) | (with_reducible refine peelBX ?_) | (with_reducible refine peelBN ?_) | (with_reducible refine peelBO rfl ?_))
                refine fun W2 => ?_
                refine WC.block ?_
                refine WC.seq ?_
                refine WC.seq ?_
                refine WC.drawRead mixed (by kernel_rfl) ?_
                refine WH.y (Yl.load on3 rfl (by repeat (first | exact Take1.head | apply Take1.tail)) (by rfl)) rfl ?_ -- t64
                refine WH.y (Yl.load on31 rfl (by repeat (first | exact Take1.head | apply Take1.tail)) (by rfl)) rfl ?_ -- t65
                refine WH.y (Yl.nilCheck rfl) rfl ?_ -- t66
                refine WH.y (Yl.field fo35_7 rfl) rfl ?_ -- t67
                refine WH.y (Yl.load on32 rfl (by repeat (first | exact Take1.head | apply Take1.tail)) (by rfl)) rfl ?_ -- t68
                refine WH.y (Yl.len un32 rfl) rfl ?_ -- t69
                refine WH.y (Yl.geq rfl rfl) rfl ?_ -- t70
                refine WH.know (t := 70) (b' := false) rfl (by simp; omega) ?_
                refine WH.y (Yl.move rfl) rfl ?_ -- t71
                refine WH.on rfl rfl ?_
                refine WH.y (Yl.load on31 rfl (by repeat (first | exact Take1.head | apply Take1.tail)) (by rfl)) rfl ?_ -- t72
                refine WH.on rfl rfl ?_
                refine WH.y (Yl.nilCheck rfl) rfl ?_ -- t73
                refine WH.on rfl rfl ?_
                refine WH.y (Yl.field fo35_7 rfl) rfl ?_ -- t74
                refine WH.on rfl rfl ?_
                refine WH.y (Yl.load on32 rfl (by repeat (first | exact Take1.head | apply Take1.tail)) (by rfl)) rfl ?_ -- t75
                refine WH.on rfl rfl ?_
                refine WH.y (Yl.load on3 rfl (by repeat (first | exact Take1.head | apply Take1.tail)) (by rfl)) rfl ?_ -- t76
                refine WH.on rfl rfl ?_
                refine WH.y (Yl.index un32 sz46 rfl rfl (Reads.of (r := ownR (.slice ao L.length ca) 46 2 L.length (vcs thV L)) RdOf.own (by repeat (first | exact Take1.head | apply Take1.tail))) rfl (by omega)) rfl ?_ -- t77
                refine WH.on rfl rfl ?_
                refine WH.y (Yl.loadV (j := i) (u := p) vtT thAll rfl (Reads.of (r := ownR (.slice ao L.length ca) 46 2 L.length (vcs thV L)) RdOf.own (by repeat (first | exact Take1.head | apply Take1.tail))) rfl hp) rfl ?_
                refine WH.on rfl rfl ?_
                refine WH.y (Yl.move rfl) rfl ?_ -- t79
                refine WH.on rfl rfl ?_
                refine WH.y (Yl.move rfl) rfl ?_ -- t80
                refine WH.on rfl rfl ?_
                refine WH.y (Yl.build rfl (cs := thC p) (fun _ => by kernel_rfl)) rfl ?_ -- t81
                refine WH.on rfl rfl ?_
                refine WH.y (Yl.neA (xs := thC p) (ys := thC p) flTh rfl rfl hpf hpf) rfl ?_
                refine WH.know (t := 82) (b' := false) rfl (by rw [eqV_self]; rfl) ?_
                refine WH.y (Yl.pickF rfl rfl) rfl ?_ -- t83
                refine WH.know (t := 83) (b' := false) rfl (by first | rfl | (simp; done) | (simp; omega)) ?_
                refine WH.nil ?_
                refine WC.condF rfl (by first | rfl | (simp; done) | (simp; omega)) ?_
                refine WC.skip ?_
                refine WC.seq ?_
                refine WC.region ?_
                refine WL.y (Yl.load on3 rfl (by repeat (first | exact Take1.head | apply Take1.tail)) (by rfl)) rfl ?_ -- t84
                refine WL.y (Yl.add rfl rfl (IntWalk.i64_in _ (by omega))) rfl ?_ -- t85
                refine WL.say (t := 85) (v' := .int .i64 ((i + 1 : Nat) : Int)) rfl (by rfl) ?_
                refine WL.sto (Sto.one sz3 rfl rfl (by repeat (first | exact Take1.head | apply Take1.tail)) rfl (by rfl) (by rfl)) (fun _ h => nomatch h) ?_ -- st 8
                refine WL.nil ?_
                refine WC.seq ?_
                refine WC.region ?_
                refine WL.y (Yl.load on3 rfl (by repeat (first | exact Take1.head | apply Take1.tail)) (by rfl)) rfl ?_ -- t86
                refine WL.y (Yl.field fo37_4 rfl) rfl ?_ -- t87
                refine WL.y (Yl.load on3 rfl (by repeat (first | exact Take1.head | apply Take1.tail)) (by rfl)) rfl ?_ -- t88
                refine WL.y (Yl.geq rfl rfl) rfl ?_ -- t89
                refine WL.nil ?_
                refine WC.condD rfl (fun g89 => ?_) (fun g89 => ?_)
                · refine WC.exit ?_
                  repeat (first | (with_reducible refine peelT ?_) | (with_reducible refine peelB ?_) | (with_reducible refine peelTX ?_) | (with_reducible refine peelBX ?_) | (with_reducible refine peelBN ?_) | (with_reducible refine peelBO rfl ?_))
                  refine ⟨[blkR b11 37 x.cells, blkR b9 31 [.pointer (some ⟨b51, 0, none⟩)], blkR b51 35 (B.rcells (.slice ao L.length ca)), ownR (.slice ao L.length ca) 46 2 L.length (vcs thV L), blkR b21 3 [.int .i64 ((i + 1 : Nat) : Int)]], _, (by repeat (first | exact TakeL.nil | (apply TakeL.cons; · repeat (first | exact Take1.head | apply Take1.tail)))), fun D => ?_⟩
                  dsimp only [alR, List.cons_append, List.nil_append]
                  refine WC.view (fun w h => h.markAdd (D := D) (Dl := Dl) (by repeat (first | exact Take1.head | apply Take1.tail)) (by repeat (first | exact Take1.head | apply Take1.tail))) ?_
                  refine WC.drawRead mixed (by kernel_rfl) ?_
                  refine WH.y (Yl.load on3 rfl (by repeat (first | exact Take1.head | apply Take1.tail)) (by rfl)) rfl ?_ -- t90
                  refine WH.y (Yl.load on31 rfl (by repeat (first | exact Take1.head | apply Take1.tail)) (by rfl)) rfl ?_ -- t91
                  refine WH.y (Yl.nilCheck rfl) rfl ?_ -- t92
                  refine WH.y (Yl.field fo35_7 rfl) rfl ?_ -- t93
                  refine WH.y (Yl.load on32 rfl (by repeat (first | exact Take1.head | apply Take1.tail)) (by rfl)) rfl ?_ -- t94
                  refine WH.y (Yl.len un32 rfl) rfl ?_ -- t95
                  refine WH.y (Yl.field fo37_4 rfl) rfl ?_ -- t96
                  refine WH.y (Yl.load on3 rfl (by repeat (first | exact Take1.head | apply Take1.tail)) (by rfl)) rfl ?_ -- t97
                  refine WH.y (Yl.max2 rfl rfl) rfl ?_ -- t98
                  refine WH.y (Yl.min2 rfl rfl) rfl ?_ -- t99
                  refine WH.y (Yl.eql rfl rfl) rfl ?_ -- t100
                  refine WH.know (t := 100) (b' := true) rfl (by first | exact decide_eq_true (max1 hix hil (by assumption)) | exact decide_eq_true (max2 (.inr (.inr trivial)) hix)) ?_
                  refine WH.y (Yl.assign rfl) rfl ?_ -- t12
                  refine WH.nil ?_
                  exact ⟨⟨B, ao, ca, L, D :: Dl⟩, rfl, hI.up, (by repeat (first | exact Sub.nil | refine Sub.cons rfl ?_)), _, (by repeat (first | exact TakeL.nil | (apply TakeL.cons; · repeat (first | exact Take1.head | apply Take1.tail))))⟩
                · refine WC.skip ?_
                  repeat (first | (with_reducible refine peelT ?_) | (with_reducible refine peelB ?_) | (with_reducible refine peelTX ?_) | (with_reducible refine peelBX ?_) | (with_reducible refine peelBN ?_) | (with_reducible refine peelBO rfl ?_))
                  exact ⟨[blkR b11 37 x.cells, blkR b9 31 [.pointer (some ⟨b51, 0, none⟩)], blkR b51 35 (B.rcells (.slice ao L.length ca)), ownR (.slice ao L.length ca) 46 2 L.length (vcs thV L), blkR b21 3 [.int .i64 ((i + 1 : Nat) : Int)]], _, (by repeat (first | exact TakeL.nil | (apply TakeL.cons; · repeat (first | exact Take1.head | apply Take1.tail)))), (), .inr (by omega), rfl⟩
              · rintro _ D hix
                rw [ysAU_len, hml2] at hix ⊢
                dsimp only [alR, List.cons_append, List.nil_append]
                refine WC.view (fun w h => h.markAdd (D := D) (Dl := Dl) (by repeat (first | exact Take1.head | apply Take1.tail)) (by repeat (first | exact Take1.head | apply Take1.tail))) ?_
                refine WC.drawRead mixed (by kernel_rfl) ?_
                refine WH.y (Yl.load on3 rfl (by repeat (first | exact Take1.head | apply Take1.tail)) (by rfl)) rfl ?_ -- t90
                refine WH.y (Yl.load on31 rfl (by repeat (first | exact Take1.head | apply Take1.tail)) (by rfl)) rfl ?_ -- t91
                refine WH.y (Yl.nilCheck rfl) rfl ?_ -- t92
                refine WH.y (Yl.field fo35_7 rfl) rfl ?_ -- t93
                refine WH.y (Yl.load on32 rfl (by repeat (first | exact Take1.head | apply Take1.tail)) (by rfl)) rfl ?_ -- t94
                refine WH.y (Yl.len un32 rfl) rfl ?_ -- t95
                refine WH.y (Yl.field fo37_4 rfl) rfl ?_ -- t96
                refine WH.y (Yl.load on3 rfl (by repeat (first | exact Take1.head | apply Take1.tail)) (by rfl)) rfl ?_ -- t97
                refine WH.y (Yl.max2 rfl rfl) rfl ?_ -- t98
                refine WH.y (Yl.min2 rfl rfl) rfl ?_ -- t99
                refine WH.y (Yl.eql rfl rfl) rfl ?_ -- t100
                refine WH.know (t := 100) (b' := true) rfl (by first | exact decide_eq_true (max1 hix hil (by assumption)) | exact decide_eq_true (max2 (.inr (.inr trivial)) hix)) ?_
                refine WH.y (Yl.assign rfl) rfl ?_ -- t12
                refine WH.nil ?_
                exact ⟨⟨B, ao, ca, L, D :: Dl⟩, rfl, hI.up, (by repeat (first | exact Sub.nil | refine Sub.cons rfl ?_)), _, (by repeat (first | exact TakeL.nil | (apply TakeL.cons; · repeat (first | exact Take1.head | apply Take1.tail))))⟩
      · clear hI hLl hS hml2 hsB
        clear B ao ca L Dl
        rintro ⟨B, ao, ca, L, Dl⟩ hI
        dsimp only at hI
        have hLl := hI.len
        have hS := hI.same
        have hml2 := hS.len
        have hsB : 0 < B.s := by rw [hI.hs]; exact hs.1
        dsimp only
        refine WC.seq ?_
        refine WC.region ?_
        refine WL.y (Yl.move rfl) rfl ?_ -- t168
        refine WL.callC (xs := [.tmp 168]) (cap := []) rfl rfl en16 (by repeat (first | exact TakeL.nil | (apply TakeL.cons; · repeat (first | exact Take1.head | apply Take1.tail)))) (fun w hw => dueFU_any b m B hI.fw.ok w hw.left.here) rfl ?_ -- t169 (*hailer/jitter.Buffer[uint32]).Due
        rintro ⟨⟩ -
        dsimp only [jb, List.cons_append, List.nil_append]
        refine WL.y (Yl.move rfl) rfl ?_ -- t167
        refine WL.y (Yl.extract rfl rfl) rfl ?_ -- t170
        refine WL.y (Yl.extract rfl rfl) rfl ?_ -- t171
        refine WL.y (Yl.assign rfl) rfl ?_ -- t24
        refine WL.y (Yl.assign rfl) rfl ?_ -- t25
        refine WL.nil ?_
        refine WC.seq ?_
        refine WC.region ?_
        refine WL.y (Yl.load on31 rfl (by repeat (first | exact Take1.head | apply Take1.tail)) (by rfl)) rfl ?_ -- t172
        refine WL.y (Yl.nilCheck rfl) rfl ?_ -- t173
        refine WL.y (Yl.field fo35_7 rfl) rfl ?_ -- t174
        refine WL.y (Yl.load on32 rfl (by repeat (first | exact Take1.head | apply Take1.tail)) (by rfl)) rfl ?_ -- t175
        refine WL.y (Yl.len un32 rfl) rfl ?_ -- t176
        refine WL.y (Yl.gtr rfl rfl) rfl ?_ -- t177
        refine WL.say (t := 177) (v' := .bool (!B.m.isEmpty)) rfl (by (refine congrArg Value.bool ?_; have := hS.len; cases hmm : B.m with | nil => rw [hmm] at this; simp at this; simp [← this] | cons q r => rw [hmm] at this; simp at this; simp; omega)) ?_
        refine WL.y (Yl.assign rfl) rfl ?_ -- t26
        refine WL.nil ?_
        refine WC.seq ?_
        refine WC.drawAny (Hs := [blkR b9 31 [.pointer (some ⟨b51, 0, none⟩)], blkR b51 35 (B.rcells (.slice ao L.length ca))]) mixed (by kernel_rfl) ⟨_, (by repeat (first | exact TakeL.nil | (apply TakeL.cons; · repeat (first | exact Take1.head | apply Take1.tail))))⟩ ?_
        refine WD.take 0 rfl (by kernel_rfl) (by kernel_rfl) (by kernel_rfl) rfl rfl (Yl.move rfl) rfl ?_ -- t178
        refine WD.take 1 rfl (by kernel_rfl) (by kernel_rfl) (by kernel_rfl) rfl rfl (Yl.not rfl) rfl ?_ -- t179
        refine WD.know (t := 179) (b' := false) rfl (by first | rfl | (simp; done) | (simp; omega)) ?_
        refine WD.take 2 rfl (by kernel_rfl) (by kernel_rfl) (by kernel_rfl) rfl rfl (Yl.move rfl) rfl ?_ -- t180
        refine WD.takeOn 3 rfl (by kernel_rfl) (by kernel_rfl) (by kernel_rfl) rfl rfl rfl rfl (Yl.move rfl) rfl ?_ -- t181
        refine WD.takeOn 5 rfl (by kernel_rfl) (by kernel_rfl) (by kernel_rfl) rfl rfl rfl rfl (Yl.load on31 rfl (by repeat (first | exact Take1.head | apply Take1.tail)) (by rfl)) rfl ?_ -- t183
        refine WD.takeOn 6 rfl (by kernel_rfl) (by kernel_rfl) (by kernel_rfl) rfl rfl rfl rfl (Yl.nilCheck rfl) rfl ?_ -- t184
        refine WD.takeOn 7 rfl (by kernel_rfl) (by kernel_rfl) (by kernel_rfl) rfl rfl rfl rfl (Yl.field fo35_8 rfl) rfl ?_ -- t185
        refine WD.takeOn 8 rfl (by kernel_rfl) (by kernel_rfl) (by kernel_rfl) rfl rfl rfl rfl (Yl.loadN ag33 rfl (by repeat (first | exact Take1.head | apply Take1.tail)) (by rfl) (show ((B.rcells (.slice ao L.length ca)).drop 8).take 6 = B.sums from rfl)) rfl ?_ -- t186
        refine WD.one 4 (by kernel_rfl) ?_
        refine WO.callC (xs := [.tmp 181]) (cap := []) rfl (.on rfl rfl) rfl rfl en17 (by repeat (first | exact TakeL.nil | (apply TakeL.cons; · repeat (first | exact Take1.head | apply Take1.tail)))) (fun w hw => sumsL_any b m B w hw.left.here) rfl (fun _ => ⟨_, (by repeat (first | exact TakeL.nil | (apply TakeL.cons; · repeat (first | exact Take1.head | apply Take1.tail))))⟩) ?_ -- t182 hailer/hailerlaw39.sums[uint32]
        rintro ⟨⟩ -
        dsimp only [jb, List.cons_append, List.nil_append]
        refine WD.takeOn 9 rfl (by kernel_rfl) (by kernel_rfl) (by kernel_rfl) rfl rfl rfl rfl (Yl.neA (xs := B.sums) (ys := B.sums) flA6 rfl rfl hI.fits hI.fits) rfl ?_
        refine WD.know (t := 187) (b' := false) rfl (by rw [eqV_self]; rfl) ?_
        refine WD.take 10 rfl (by kernel_rfl) (by kernel_rfl) (by kernel_rfl) rfl rfl (Yl.pickF rfl rfl) rfl ?_ -- t188
        refine WD.know (t := 188) (b' := false) rfl (by first | rfl | (simp; done) | (simp; omega)) ?_
        refine WD.take 11 rfl (by kernel_rfl) (by kernel_rfl) (by kernel_rfl) rfl rfl (Yl.move rfl) rfl ?_ -- t189
        refine WD.takeOn 12 rfl (by kernel_rfl) (by kernel_rfl) (by kernel_rfl) rfl rfl rfl rfl (Yl.move rfl) rfl ?_ -- t190
        refine WD.takeOn 13 rfl (by kernel_rfl) (by kernel_rfl) (by kernel_rfl) rfl rfl rfl rfl (Yl.move rfl) rfl ?_ -- t191
        refine WD.takeOn 14 rfl (by kernel_rfl) (by kernel_rfl) (by kernel_rfl) rfl rfl rfl rfl (Yl.bNe un4 rfl rfl) rfl ?_ -- t192
        refine WD.know (t := 192) (b' := false) rfl (by simp) ?_
        refine WD.take 15 rfl (by kernel_rfl) (by kernel_rfl) (by kernel_rfl) rfl rfl (Yl.pickF rfl rfl) rfl ?_ -- t193
        refine WD.know (t := 193) (b' := false) rfl (by first | rfl | (simp; done) | (simp; omega)) ?_
        refine WD.take 16 rfl (by kernel_rfl) (by kernel_rfl) (by kernel_rfl) rfl rfl (Yl.move rfl) rfl ?_ -- t194
        refine WD.takeOn 17 rfl (by kernel_rfl) (by kernel_rfl) (by kernel_rfl) rfl rfl rfl rfl (Yl.move rfl) rfl ?_ -- t195
        refine WD.takeOn 18 rfl (by kernel_rfl) (by kernel_rfl) (by kernel_rfl) rfl rfl rfl rfl (Yl.move rfl) rfl ?_ -- t196
        refine WD.both (t := 196) rfl (fun g196 => ?_) (fun g196 => ?_)
        · refine WD.takeOn 19 rfl (by kernel_rfl) (by kernel_rfl) (by kernel_rfl) rfl rfl rfl rfl (Yl.move rfl) rfl ?_ -- t197
          refine WD.takeOn 20 rfl (by kernel_rfl) (by kernel_rfl) (by kernel_rfl) rfl rfl rfl rfl (Yl.load on31 rfl (by repeat (first | exact Take1.head | apply Take1.tail)) (by rfl)) rfl ?_ -- t198
          refine WD.takeOn 21 rfl (by kernel_rfl) (by kernel_rfl) (by kernel_rfl) rfl rfl rfl rfl (Yl.load on31 rfl (by repeat (first | exact Take1.head | apply Take1.tail)) (by rfl)) rfl ?_ -- t199
          refine WD.takeOn 22 rfl (by kernel_rfl) (by kernel_rfl) (by kernel_rfl) rfl rfl rfl rfl (Yl.nilCheck rfl) rfl ?_ -- t200
          refine WD.takeOn 23 rfl (by kernel_rfl) (by kernel_rfl) (by kernel_rfl) rfl rfl rfl rfl (Yl.field fo35_6 rfl) rfl ?_ -- t201
          refine WD.takeOn 24 rfl (by kernel_rfl) (by kernel_rfl) (by kernel_rfl) rfl rfl rfl rfl (Yl.load on22 rfl (by repeat (first | exact Take1.head | apply Take1.tail)) (by rfl)) rfl ?_ -- t202
          refine WD.one 25 (by kernel_rfl) ?_
          refine WO.callC (xs := [.tmp 198, .tmp 202]) (cap := []) rfl (.on rfl rfl) rfl rfl en18 (by repeat (first | exact TakeL.nil | (apply TakeL.cons; · repeat (first | exact Take1.head | apply Take1.tail)))) (fun w hw => rdue_any b51 (.slice ao L.length ca) B B.nx hI.fw.ok hsB w hw.left.here) rfl (fun _ => ⟨_, (by repeat (first | exact TakeL.nil | (apply TakeL.cons; · repeat (first | exact Take1.head | apply Take1.tail))))⟩) ?_ -- t203 (*hailer/hailerref39.Buffer).Due
          rintro ⟨⟩ -
          dsimp only [List.cons_append, List.nil_append]
          refine WD.takeOn 26 rfl (by kernel_rfl) (by kernel_rfl) (by kernel_rfl) rfl rfl rfl rfl (Yl.neq rfl rfl) rfl ?_ -- t204
          refine WD.know (t := 204) (b' := false) rfl (by have h9 : B.m.isEmpty = false := (by simpa using g196); simp [h9]) ?_
          refine WD.takeOn 27 rfl (by kernel_rfl) (by kernel_rfl) (by kernel_rfl) rfl rfl rfl rfl (Yl.pickT rfl rfl) rfl ?_ -- t205
          refine WD.know (t := 205) (b' := false) rfl (by first | rfl | (simp; done) | (simp; omega)) ?_
          refine WD.take 28 rfl (by kernel_rfl) (by kernel_rfl) (by kernel_rfl) rfl rfl (Yl.pickF rfl rfl) rfl ?_ -- t206
          refine WD.know (t := 206) (b' := false) rfl (by first | rfl | (simp; done) | (simp; omega)) ?_
          refine WD.done (by kernel_rfl) ?_
          refine WC.condF rfl (by first | rfl | (simp; done) | (simp; omega)) ?_
          refine WC.skip ?_
          refine WC.region ?_
          refine WL.y (Yl.add rfl rfl (IntWalk.i64_in _ (by omega))) rfl ?_ -- t207
          refine WL.say (t := 207) (v' := .int .i64 ((j + 1 : Nat) : Int)) rfl (by rfl) ?_
          refine WL.y (Yl.move rfl) rfl ?_ -- t54
          refine WL.nil ?_
          exact ⟨(j + 1, ⟨B, ao, ca, L, Dl⟩), rfl, ⟨by dsimp only; omega, hI⟩, by dsimp only; omega, (by repeat (first | exact Sub.nil | refine Sub.cons rfl ?_)), _, (by repeat (first | exact TakeL.nil | (apply TakeL.cons; · repeat (first | exact Take1.head | apply Take1.tail))))⟩
        · refine WD.takeOff 19 rfl (by kernel_rfl) (by kernel_rfl) (by kernel_rfl) rfl rfl rfl rfl rfl rfl ?_ -- t197
          refine WD.takeOff 20 rfl (by kernel_rfl) (by kernel_rfl) (by kernel_rfl) rfl rfl rfl rfl rfl rfl ?_ -- t198
          refine WD.takeOff 21 rfl (by kernel_rfl) (by kernel_rfl) (by kernel_rfl) rfl rfl rfl rfl rfl rfl ?_ -- t199
          refine WD.takeOff 22 rfl (by kernel_rfl) (by kernel_rfl) (by kernel_rfl) rfl rfl rfl rfl rfl rfl ?_ -- t200
          refine WD.takeOff 23 rfl (by kernel_rfl) (by kernel_rfl) (by kernel_rfl) rfl rfl rfl rfl rfl rfl ?_ -- t201
          refine WD.takeOff 24 rfl (by kernel_rfl) (by kernel_rfl) (by kernel_rfl) rfl rfl rfl rfl rfl rfl ?_ -- t202
          refine WD.one 25 (by kernel_rfl) ?_
          refine WO.off rfl rfl rfl rfl rfl rfl rfl ?_ -- t203
          refine WD.takeOff 26 rfl (by kernel_rfl) (by kernel_rfl) (by kernel_rfl) rfl rfl rfl rfl rfl rfl ?_ -- t204
          refine WD.takeOn 27 rfl (by kernel_rfl) (by kernel_rfl) (by kernel_rfl) rfl rfl rfl rfl (Yl.pickF rfl rfl) rfl ?_ -- t205
          refine WD.know (t := 205) (b' := false) rfl (by first | rfl | (simp; done) | (simp; omega)) ?_
          refine WD.take 28 rfl (by kernel_rfl) (by kernel_rfl) (by kernel_rfl) rfl rfl (Yl.pickF rfl rfl) rfl ?_ -- t206
          refine WD.know (t := 206) (b' := false) rfl (by first | rfl | (simp; done) | (simp; omega)) ?_
          refine WD.done (by kernel_rfl) ?_
          refine WC.condF rfl (by first | rfl | (simp; done) | (simp; omega)) ?_
          refine WC.skip ?_
          refine WC.region ?_
          refine WL.y (Yl.add rfl rfl (IntWalk.i64_in _ (by omega))) rfl ?_ -- t207
          refine WL.say (t := 207) (v' := .int .i64 ((j + 1 : Nat) : Int)) rfl (by rfl) ?_
          refine WL.y (Yl.move rfl) rfl ?_ -- t54
          refine WL.nil ?_
          exact ⟨(j + 1, ⟨B, ao, ca, L, Dl⟩), rfl, ⟨by dsimp only; omega, hI⟩, by dsimp only; omega, (by repeat (first | exact Sub.nil | refine Sub.cons rfl ?_)), _, (by repeat (first | exact TakeL.nil | (apply TakeL.cons; · repeat (first | exact Take1.head | apply Take1.tail))))⟩
    · refine WC.exit ?_
      refine WC.seq ?_
      refine WC.view (fun w h => h.markEnd (Dl := Dl) (by repeat (first | exact Take1.head | apply Take1.tail))) ?_
      dsimp only [List.cons_append, List.nil_append]
      refine WC.region ?_
      refine WL.sto (Sto.one sz4 rfl rfl (by repeat (first | exact Take1.head | apply Take1.tail)) rfl (by rfl) (by rfl)) (fun _ h => nomatch h) ?_ -- st 10
      refine WL.nil ?_
      refine WC.ret ?_
      repeat (first | (with_reducible refine peelT ?_) | (with_reducible refine peelB ?_) | (with_reducible refine peelTX ?_) | (with_reducible refine peelBX ?_) | (with_reducible refine peelBN ?_) | (with_reducible refine peelBO rfl ?_))
      refine retM.of (marks_end Dl [blkR b6 4 [.bool true], blkR b9 31 [.pointer (some ⟨b51, 0, none⟩)], blkR b 97 (B.cells m), mapR (Value.int .u64) vI m B.m, blkR b51 35 (B.rcells (.slice ao L.length ca)), ownR (.slice ao L.length ca) 46 2 L.length (vcs thV L), rdR (.slice al l.length cl) 5 l.length (vcs Dj.val l)]) ?_
      exact retV1 (.inr rfl) Try.results3 on4 rfl (by repeat (first | exact Take1.head | apply Take1.tail)) fun w' h => ⟨(), trivial, rfl, h.sub (by repeat (first | exact TakeL.nil | (apply TakeL.cons; · repeat (first | exact Take1.head | apply Take1.tail))))⟩
theorem playsL_any (d s : Int) (l : List Dj) (v : Value) (hd : U6 d) (hs : U6 s) (hG : ∀ x ∈ l, x.ok) (w : World) (hw : OK w (fpL [rdR v 5 l.length (vcs Dj.val l)]) [rdR v 5 l.length (vcs Dj.val l)] w) :
    Fn Try.prog 3 [.int .u64 d, .int .u64 s, v] [rdR v 5 l.length (vcs Dj.val l)] w (fun _ : Unit => True) (fun _ => .bool true) (fun _ => []) := by
  cases hm : mayJ d s with
  | false => exact plays_bad d s l v hd hs hm w hw
  | true =>
    have h : d ≤ 4294967296 ∧ 0 < s ∧ s ≤ 4294967296 := by
      have := hm
      unfold mayJ at this
      simp only [Bool.and_eq_true, decide_eq_true_eq] at this
      exact ⟨this.1.1, this.1.2, this.2⟩
    exact plays_good d s l v hG ⟨hd.1, h.1⟩ h.2 hm w hw
end Go.Proofs.Ytklbmgfpnafdlaa
