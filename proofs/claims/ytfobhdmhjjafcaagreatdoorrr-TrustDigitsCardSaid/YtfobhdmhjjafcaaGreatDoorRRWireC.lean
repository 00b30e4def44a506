/- What is taken: the walks. -/
import Derived.Test.YtfobhdmhjjafcaaGreatDoorRRFacts
import Derived.Test.YtfobhdmhjjafcaaGreatDoorRRWireP
import Derived.Test.YtfobhdmhjjafcaaGreatDoorRRLibY
namespace Go.Proofs.YtfobhdmhjjafcaaGreatDoorRR
open Go Go.RowKit

abbrev inR (b : Nat) (v : Value) (wr : Bool) : Res := blkR b 139 [v, .bool wr]

abbrev TkΦ (r : Res) (k : Nat) (bs : List Int) (wr : Bool) (x : (Option Addr × Nat) × (Option Addr × Nat)) : Prop :=
  RdOf r (.slice x.1.1 (tkR k bs wr).length x.1.2) 1 (tkR k bs wr).length (ints .u8 (tkR k bs wr)) ∧ (tkR k bs wr).length ≤ x.1.2 ∧
  RdOf r (.slice x.2.1 (tkB k bs wr).length x.2.2) 1 (tkB k bs wr).length (ints .u8 (tkB k bs wr)) ∧ (tkB k bs wr).length ≤ x.2.2

theorem take_any (b : Nat) (ao : Option Addr) (cap k : Nat) (bs : List Int) (wr : Bool) (r : Res) (hr : RdOf r (.slice ao bs.length cap) 1 bs.length (ints .u8 bs)) (hc : bs.length ≤ cap) (w : World) (hw : OK w (fpL [inR b (.slice ao bs.length cap) wr, r]) [inR b (.slice ao bs.length cap) wr, r] w) :
    Fn Tryz.prog 95 [.pointer (some ⟨b, 0, none⟩), .int .i64 (k : Int)] [inR b (.slice ao bs.length cap) wr, r] w (TkΦ r k bs wr) (fun x => .slice x.1.1 (tkR k bs wr).length x.1.2) (fun x => [inR b (.slice x.2.1 (tkB k bs wr).length x.2.2) (tkW k bs wr), r]) := by
  refine enterF Tryz.func95 rfl Tryz.ntmps95 rfl hw ?_
  refine WC.seq ?_
  refine WC.region ?_
  refine WL.y (Yl.assign rfl) rfl ?_
  refine WL.nil ?_
  refine WC.seq ?_
  refine WC.seq ?_
  refine WC.region ?_
  refine WL.y (Yl.move rfl) rfl ?_
  refine WL.y (Yl.nilEq un91 rfl rfl) rfl ?_
  refine WL.nil ?_
  refine WC.condF rfl (by first | rfl | (simp; done) | (simp; omega)) ?_
  refine WC.skip ?_
  refine WC.seq ?_
  refine WC.midK [] [inR b (.slice ao bs.length cap) (tkW k bs wr), r] ?_ ?_
  · refine WC.region ?_
    refine WL.y (Yl.move rfl) rfl ?_
    refine WL.y (Yl.move rfl) rfl ?_
    refine WL.y (Yl.nilCheck rfl) rfl ?_
    refine WL.y (Yl.field fo139_1 rfl) rfl ?_
    refine WL.y (Yl.load on4 rfl (by repeat constructor) (by rfl)) rfl ?_
    refine WL.y (Yl.move rfl) rfl ?_
    refine WL.both (t := 13) rfl (fun g13 => ?_) (fun g13 => ?_)
    · refine WL.off rfl rfl rfl rfl ?_
      refine WL.off rfl rfl rfl rfl ?_
      refine WL.y (Yl.pickT rfl rfl) rfl ?_
      refine WL.y (Yl.move rfl) rfl ?_
      refine WL.off rfl rfl rfl rfl ?_
      refine WL.off rfl rfl rfl rfl ?_
      refine WL.off rfl rfl rfl rfl ?_
      refine WL.off rfl rfl rfl rfl ?_
      refine WL.off rfl rfl rfl rfl ?_
      refine WL.off rfl rfl rfl rfl ?_
      refine WL.off rfl rfl rfl rfl ?_
      refine WL.y (Yl.pickT rfl rfl) rfl ?_
      refine WL.say (t := 25) (v' := .bool (tkW k bs wr)) rfl (by first | (rw [g13]; rfl) | (rw [g13, tkW_F])) ?_
      refine WL.y (Yl.nilCheck rfl) rfl ?_
      refine WL.y (Yl.field fo139_1 rfl) rfl ?_
      refine WL.sto (Sto.one sz4 rfl rfl (by repeat constructor) rfl (by rfl) (by rfl)) (fun _ h => nomatch h) ?_
      refine WL.nil ?_
      exact ⟨rfl, (by repeat (first | exact Sub.nil | refine Sub.cons rfl ?_)), (by repeat (first | exact Sub.nil | refine Sub.cons rfl ?_)), _, (by repeat' constructor)⟩
    · refine WL.on rfl rfl ?_
      refine WL.y (Yl.move rfl) rfl ?_
      refine WL.on rfl rfl ?_
      refine WL.y (Yl.lss rfl rfl) rfl ?_
      refine WL.know (t := 15) (b' := false) rfl (by first | rfl | (simp; done) | (simp; omega)) ?_
      refine WL.y (Yl.pickF rfl rfl) rfl ?_
      refine WL.y (Yl.move rfl) rfl ?_
      refine WL.on rfl rfl ?_
      refine WL.y (Yl.move rfl) rfl ?_
      refine WL.on rfl rfl ?_
      refine WL.y (Yl.move rfl) rfl ?_
      refine WL.on rfl rfl ?_
      refine WL.y (Yl.nilCheck rfl) rfl ?_
      refine WL.on rfl rfl ?_
      refine WL.y (Yl.field fo139_0 rfl) rfl ?_
      refine WL.on rfl rfl ?_
      refine WL.y (Yl.load on58 rfl (by repeat constructor) (by rfl)) rfl ?_
      refine WL.on rfl rfl ?_
      refine WL.y (Yl.len un58 rfl) rfl ?_
      refine WL.on rfl rfl ?_
      refine WL.y (Yl.gtr rfl rfl) rfl ?_
      refine WL.y (Yl.pickF rfl rfl) rfl ?_
      refine WL.say (t := 25) (v' := .bool (tkW k bs wr)) rfl (by first | (rw [g13]; rfl) | (rw [g13, tkW_F])) ?_
      refine WL.y (Yl.nilCheck rfl) rfl ?_
      refine WL.y (Yl.field fo139_1 rfl) rfl ?_
      refine WL.sto (Sto.one sz4 rfl rfl (by repeat constructor) rfl (by rfl) (by rfl)) (fun _ h => nomatch h) ?_
      refine WL.nil ?_
      exact ⟨rfl, (by repeat (first | exact Sub.nil | refine Sub.cons rfl ?_)), (by repeat (first | exact Sub.nil | refine Sub.cons rfl ?_)), _, (by repeat' constructor)⟩
  · refine WC.seq ?_
    refine WC.region ?_
    refine WL.y (Yl.move rfl) rfl ?_
    refine WL.y (Yl.nilCheck rfl) rfl ?_
    refine WL.y (Yl.field fo139_1 rfl) rfl ?_
    refine WL.y (Yl.load on4 rfl (by repeat constructor) (by rfl)) rfl ?_
    skip
    refine WL.nil ?_
    refine WC.cond rfl (fun g31 => ?_) (fun g31 => ?_)
    · refine WC.seq ?_
      refine WC.region ?_
      refine WL.y (Yl.assign rfl) rfl ?_
      refine WL.nil ?_
      refine WC.ret ?_
      repeat (with_reducible (first | refine peelT ?_ | refine peelB ?_ | refine peelTX ?_ | refine peelBX ?_ | refine peelBN ?_ | refine peelBO rfl ?_))
      have e0 : tkOk k bs wr = false := by simpa [tkW] using g31
      have e1 : tkR k bs wr = [] := by simp [tkR, e0]
      have e2 : tkB k bs wr = bs := by simp [tkB, e0]
      refine ret1 (.inr rfl) Tryz.results95 rfl fun w' h => ⟨((none, 0), (ao, cap)), ?_, by rw [e1]; rfl, ?_⟩
      · unfold TkΦ; rw [e1, e2]; exact ⟨⟨fun _ _ => Rd.nil _ _⟩, by simp, hr, hc⟩
      · rw [e2]; exact h.sub (by repeat' constructor)
    · refine WC.skip ?_
      refine WC.seq ?_
      refine WC.region ?_
      refine WL.y (Yl.move rfl) rfl ?_
      refine WL.y (Yl.nilCheck rfl) rfl ?_
      have e0 : tkOk k bs wr = true := by simpa [tkW] using g31
      have hk : k ≤ bs.length := by simp [tkOk] at e0; exact e0.2
      have e1 : tkR k bs wr = bs.take k := by simp [tkR, e0]
      have e2 : tkB k bs wr = bs.drop k := by simp [tkB, e0]
      have e3 : (bs.take k).length = k := by simp; omega
      have e4 : (bs.drop k).length = bs.length - k := by simp
      refine WL.y (Yl.field fo139_0 rfl) rfl ?_
      refine WL.y (Yl.load on58 rfl (by repeat constructor) (by rfl)) rfl ?_
      refine WL.y (Yl.move rfl) rfl ?_
      refine WL.y (Yl.move rfl) rfl ?_
      refine WL.y (Yl.slice3 un58 sz5 rfl rfl rfl (by omega) (by omega)) rfl ?_
      refine WL.y (Yl.assign rfl) rfl ?_
      refine WL.nil ?_
      refine WC.seq ?_
      refine WC.region ?_
      refine WL.y (Yl.move rfl) rfl ?_
      refine WL.y (Yl.move rfl) rfl ?_
      refine WL.y (Yl.nilCheck rfl) rfl ?_
      refine WL.y (Yl.field fo139_0 rfl) rfl ?_
      refine WL.y (Yl.load on58 rfl (by repeat constructor) (by rfl)) rfl ?_
      refine WL.y (Yl.move rfl) rfl ?_
      refine WL.y (Yl.slice un58 sz5 rfl ⟨_, rfl⟩ rfl (by omega) (by omega)) rfl ?_
      refine WL.y (Yl.nilCheck rfl) rfl ?_
      refine WL.y (Yl.field fo139_0 rfl) rfl ?_
      refine WL.sto (Sto.one sz58 rfl rfl (by repeat constructor) rfl (by rfl) (by rfl)) (fun _ h => nomatch h) ?_
      refine WL.nil ?_
      refine WC.seq ?_
      refine WC.region ?_
      refine WL.y (Yl.move rfl) rfl ?_
      refine WL.y (Yl.assign rfl) rfl ?_
      refine WL.nil ?_
      refine WC.ret ?_
      repeat (with_reducible (first | refine peelT ?_ | refine peelB ?_ | refine peelTX ?_ | refine peelBX ?_ | refine peelBN ?_ | refine peelBO rfl ?_))
      refine ret1 (.inr rfl) Tryz.results95 rfl fun w' h => ⟨((if k = 0 then ao else ao.map (·.add (0 * 1)), k), (if cap = k then ao else ao.map (·.add (k * 1)), cap - k)), ?_, by rw [e1, e3]; rfl, ?_⟩
      · unfold TkΦ
        rw [e1, e2, e3, e4]
        have q1 := hr.sub3 (m := k) hk (cs' := ints .u8 (bs.take k)) (by rw [Nat.mul_one, ints_take])
        have q2 := hr.sub (l := k) (h := bs.length) hk (Nat.le_refl _) (cs' := ints .u8 (bs.drop k)) (by rw [Nat.mul_one, Nat.mul_one, ints_drop, ints_take, List.take_of_length_le (by simp)])
        exact ⟨q1, Nat.le_refl _, q2, by dsimp only; omega⟩
      · rw [e2, e4]; exact h.sub (by repeat' constructor)
abbrev NxΦ (r : Res) (k : Nat) (bs : List Int) (wr : Bool) (x : Option Addr × Nat) : Prop :=
  RdOf r (.slice x.1 (tkB k bs wr).length x.2) 1 (tkB k bs wr).length (ints .u8 (tkB k bs wr)) ∧ (tkB k bs wr).length ≤ x.2

theorem next_any (b : Nat) (ao : Option Addr) (cap k : Nat) (bs : List Int) (wr : Bool) (r : Res) (hr : RdOf r (.slice ao bs.length cap) 1 bs.length (ints .u8 bs)) (hc : bs.length ≤ cap) (hB : Bytes bs) (hk : k ≤ 8) (w : World) (hw : OK w (fpL [inR b (.slice ao bs.length cap) wr, r]) [inR b (.slice ao bs.length cap) wr, r] w) :
    Fn Tryz.prog 77 [.pointer (some ⟨b, 0, none⟩), .int .i64 (k : Int)] [inR b (.slice ao bs.length cap) wr, r] w (NxΦ r k bs wr) (fun _ => .int .u64 (val (tkR k bs wr))) (fun x => [inR b (.slice x.1 (tkB k bs wr).length x.2) (tkW k bs wr), r]) := by
  have hT := tkR_len k bs wr
  have hTB := hB.tkR k wr
  generalize hTT : tkR k bs wr = T at hT hTB
  refine enterF Tryz.func77 rfl Tryz.ntmps77 rfl hw ?_
  refine WC.seq ?_
  refine WC.region ?_
  refine WL.y (Yl.assign rfl) rfl ?_
  refine WL.nil ?_
  refine WC.seq ?_
  refine WC.region ?_
  refine WL.y (Yl.assign rfl) rfl ?_
  refine WL.nil ?_
  refine WC.seq ?_
  refine WC.seq ?_
  refine WC.region ?_
  refine WL.y (Yl.move rfl) rfl ?_
  refine WL.y (Yl.move rfl) rfl ?_
  refine WL.callC (xs := [.tmp 8, .tmp 9]) (cap := []) rfl rfl en95 (by repeat' constructor) (fun w hw => take_any b ao cap k bs wr r hr hc w hw.left.here) rfl ?_
  rintro ⟨⟨a1, c1⟩, ⟨a2, c2⟩⟩ ⟨q1, q2, q3, q4⟩
  dsimp only at q1 q2 q3 q4 ⊢
  rw [hTT] at q1 q2 ⊢
  refine WL.y (Yl.len un58 rfl) rfl ?_
  refine WL.y (Yl.move rfl) rfl ?_
  refine WL.nil ?_
  refine WC.block ?_
  refine WC.loop (α := Nat) (fun j => [(5, .int .u64 (val (T.take j))), (10, .slice a1 T.length c1), (11, .int .i64 (T.length : Int)), (12, .int .i64 (j : Int))]) (fun _ => [inR b (.slice a2 (tkB k bs wr).length c2) (tkW k bs wr), r]) (fun j => j ≤ T.length) (fun j => T.length - j) 0 (Nat.zero_le _) ⟨(by repeat (first | exact Sub.nil | refine Sub.cons rfl ?_)), _, (by repeat' constructor)⟩ ?_
  intro j hj
  refine WC.seq ?_
  refine WC.region ?_
  refine WL.y (Yl.lss rfl rfl) rfl ?_
  refine WL.nil ?_
  refine WC.seq ?_
  refine WC.condD rfl (fun g13 => ?_) (fun g13 => ?_)
  · refine WC.skip ?_
    refine WC.seq ?_
    refine WC.block ?_
    refine WC.seq ?_
    refine WC.region ?_
    have hx := hTB.getD (i := j) (by omega)
    have hv := val_range (hTB.take j)
    have hp := pow256 (n := (T.take j).length + 1) (by simp; omega)
    rw [Int.pow_succ] at hp
    refine WL.y (Yl.index un58 sz5 rfl rfl (Reads.of q1 (by repeat constructor)) rfl (by omega)) rfl ?_
    refine WL.y (Yl.loadE on5 rfl (Reads.of q1 (by repeat constructor)) (ints_get .u8 T j (by omega))) rfl ?_
    refine WL.y (Yl.assign rfl) rfl ?_
    refine WL.nil ?_
    refine WC.region ?_
    refine WL.y (Yl.move rfl) rfl ?_
    refine WL.y (Yl.shl rfl rfl ⟨by omega, by decide⟩ (sh8 _ hv.1 (by omega))) rfl ?_
    refine WL.y (Yl.move rfl) rfl ?_
    refine WL.y (Yl.conv un5 un66 rfl (u64_in _ (by omega))) rfl ?_
    refine WL.y (Yl.or rfl rfl) rfl ?_
    refine WL.say (t := 20) (v' := .int .u64 (val (T.take (j + 1)))) rfl (by rw [or_byte _ _ hv.1 (by omega) hx, take_getD (show j < T.length by omega), val_snoc]) ?_
    refine WL.y (Yl.assign rfl) rfl ?_
    refine WL.nil ?_
    refine WC.region ?_
    refine WL.y (Yl.add rfl rfl (IntWalk.i64_in _ (by omega))) rfl ?_
    refine WL.y (Yl.move rfl) rfl ?_
    refine WL.nil ?_
    exact ⟨rfl, j + 1, by omega, by omega, (by repeat (first | exact Sub.nil | refine Sub.cons rfl ?_)), _, (by repeat' constructor)⟩
  · refine WC.exit ?_
    refine WC.seq ?_
    refine WC.region ?_
    refine WL.y (Yl.move rfl) rfl ?_
    refine WL.y (Yl.assign rfl) rfl ?_
    refine WL.nil ?_
    refine WC.ret ?_
    repeat (with_reducible (first | refine peelT ?_ | refine peelB ?_ | refine peelTX ?_ | refine peelBX ?_ | refine peelBN ?_ | refine peelBO rfl ?_))
    have hj2 : j = T.length := by omega
    subst hj2
    refine ret1 (.inr rfl) Tryz.results77 rfl fun w' h => ⟨(a2, c2), ⟨q3, q4⟩, by rw [List.take_length], h.sub (by repeat' constructor)⟩

theorem inU8_any (b : Nat) (ao : Option Addr) (cap : Nat) (bs : List Int) (wr : Bool) (r : Res) (hr : RdOf r (.slice ao bs.length cap) 1 bs.length (ints .u8 bs)) (hc : bs.length ≤ cap) (hB : Bytes bs) (w : World) (hw : OK w (fpL [inR b (.slice ao bs.length cap) wr, r]) [inR b (.slice ao bs.length cap) wr, r] w) :
    Fn Tryz.prog 40 [.pointer (some ⟨b, 0, none⟩)] [inR b (.slice ao bs.length cap) wr, r] w (NxΦ r 1 bs wr) (fun _ => .int .u8 (val (tkR 1 bs wr))) (fun x => [inR b (.slice x.1 (tkB 1 bs wr).length x.2) (tkW 1 bs wr), r]) := by
  have hv := val1 hB wr
  refine enterF Tryz.func40 rfl Tryz.ntmps40 rfl hw ?_
  refine WC.seq ?_
  refine WC.region ?_
  refine WL.y (Yl.assign rfl) rfl ?_
  refine WL.nil ?_
  refine WC.seq ?_
  refine WC.region ?_
  refine WL.y (Yl.move rfl) rfl ?_
  refine WL.callC (xs := [.tmp 3, _]) (cap := []) rfl rfl en77 (by repeat' constructor) (fun w hw => next_any b ao cap 1 bs wr r hr hc hB (by omega) w hw.left.here) rfl ?_
  intro x hx
  refine WL.y (Yl.conv un66 un5 rfl (IntWalk.u8_in _ (by omega))) rfl ?_
  refine WL.y (Yl.assign rfl) rfl ?_
  refine WL.nil ?_
  refine WC.ret ?_
  repeat (with_reducible (first | refine peelT ?_ | refine peelB ?_ | refine peelTX ?_ | refine peelBX ?_ | refine peelBN ?_ | refine peelBO rfl ?_))
  exact ret1 (.inr rfl) Tryz.results40 rfl fun w' h => ⟨x, hx, rfl, h.sub (by repeat' constructor)⟩

/-- How it ends. -/
def endE (bs : List Int) (wr : Bool) : Int := if wr || decide (0 < bs.length) then 9 else 0

theorem inEnd_any (b : Nat) (ao : Option Addr) (cap : Nat) (bs : List Int) (wr : Bool) (w : World) (hw : OK w (fpL [inR b (.slice ao bs.length cap) wr]) [inR b (.slice ao bs.length cap) wr] w) :
    Fn Tryz.prog 47 [.pointer (some ⟨b, 0, none⟩)] [inR b (.slice ao bs.length cap) wr] w (fun _ : Unit => True) (fun _ => .int .i64 (endE bs wr)) (fun _ => [inR b (.slice ao bs.length cap) wr]) := by
  refine enterF Tryz.func47 rfl Tryz.ntmps47 rfl hw ?_
  refine WC.seq ?_
  refine WC.region ?_
  refine WL.y (Yl.assign rfl) rfl ?_
  refine WL.nil ?_
  refine WC.seq ?_
  refine WC.block ?_
  refine WC.seq ?_
  refine WC.region ?_
  refine WL.y (Yl.move rfl) rfl ?_
  refine WL.y (Yl.nilEq un91 rfl rfl) rfl ?_
  refine WL.y (Yl.assign rfl) rfl ?_
  refine WL.nil ?_
  refine WC.condF rfl (by first | rfl | (simp; done) | (simp; omega)) ?_
  refine WC.seq ?_
  refine WC.region ?_
  refine WL.y (Yl.move rfl) rfl ?_
  refine WL.y (Yl.nilCheck rfl) rfl ?_
  refine WL.y (Yl.field fo139_1 rfl) rfl ?_
  refine WL.y (Yl.load on4 rfl (by repeat constructor) (by rfl)) rfl ?_
  refine WL.y (Yl.move rfl) rfl ?_
  refine WL.both (t := 11) rfl (fun g11 => ?_) (fun g11 => ?_)
  · refine WL.off rfl rfl rfl rfl ?_
    refine WL.off rfl rfl rfl rfl ?_
    refine WL.off rfl rfl rfl rfl ?_
    refine WL.off rfl rfl rfl rfl ?_
    refine WL.off rfl rfl rfl rfl ?_
    refine WL.off rfl rfl rfl rfl ?_
    refine WL.y (Yl.pickT rfl rfl) rfl ?_
    refine WL.say (t := 18) (v' := .bool (wr || decide (0 < bs.length))) rfl (by simp [g11]) ?_
    refine WL.y (Yl.assign rfl) rfl ?_
    refine WL.nil ?_
    refine WC.cond rfl (fun g6 => ?_) (fun g6 => ?_)
    · refine WC.seq ?_
      refine WC.region ?_
      refine WL.y (Yl.assign rfl) rfl ?_
      refine WL.nil ?_
      refine WC.ret ?_
      repeat (with_reducible (first | refine peelT ?_ | refine peelB ?_ | refine peelTX ?_ | refine peelBX ?_ | refine peelBN ?_ | refine peelBO rfl ?_))
      exact ret1 (.inr rfl) Tryz.results47 rfl fun w' h => ⟨(), trivial, by simp [endE, g6], h.sub (by repeat' constructor)⟩
    · refine WC.skip ?_
      refine WC.seq ?_
      refine WC.region ?_
      refine WL.y (Yl.assign rfl) rfl ?_
      refine WL.nil ?_
      refine WC.ret ?_
      repeat (with_reducible (first | refine peelT ?_ | refine peelB ?_ | refine peelTX ?_ | refine peelBX ?_ | refine peelBN ?_ | refine peelBO rfl ?_))
      exact ret1 (.inr rfl) Tryz.results47 rfl fun w' h => ⟨(), trivial, by simp [endE, g6], h.sub (by repeat' constructor)⟩
  · refine WL.on rfl rfl ?_
    refine WL.y (Yl.move rfl) rfl ?_
    refine WL.on rfl rfl ?_
    refine WL.y (Yl.nilCheck rfl) rfl ?_
    refine WL.on rfl rfl ?_
    refine WL.y (Yl.field fo139_0 rfl) rfl ?_
    refine WL.on rfl rfl ?_
    refine WL.y (Yl.load on58 rfl (by repeat constructor) (by rfl)) rfl ?_
    refine WL.on rfl rfl ?_
    refine WL.y (Yl.len un58 rfl) rfl ?_
    refine WL.on rfl rfl ?_
    refine WL.y (Yl.gtr rfl rfl) rfl ?_
    refine WL.y (Yl.pickF rfl rfl) rfl ?_
    refine WL.say (t := 18) (v' := .bool (wr || decide (0 < bs.length))) rfl (by simp [g11]) ?_
    refine WL.y (Yl.assign rfl) rfl ?_
    refine WL.nil ?_
    refine WC.cond rfl (fun g6 => ?_) (fun g6 => ?_)
    · refine WC.seq ?_
      refine WC.region ?_
      refine WL.y (Yl.assign rfl) rfl ?_
      refine WL.nil ?_
      refine WC.ret ?_
      repeat (with_reducible (first | refine peelT ?_ | refine peelB ?_ | refine peelTX ?_ | refine peelBX ?_ | refine peelBN ?_ | refine peelBO rfl ?_))
      exact ret1 (.inr rfl) Tryz.results47 rfl fun w' h => ⟨(), trivial, by simp [endE, g6], h.sub (by repeat' constructor)⟩
    · refine WC.skip ?_
      refine WC.seq ?_
      refine WC.region ?_
      refine WL.y (Yl.assign rfl) rfl ?_
      refine WL.nil ?_
      refine WC.ret ?_
      repeat (with_reducible (first | refine peelT ?_ | refine peelB ?_ | refine peelTX ?_ | refine peelBX ?_ | refine peelBN ?_ | refine peelBO rfl ?_))
      exact ret1 (.inr rfl) Tryz.results47 rfl fun w' h => ⟨(), trivial, by simp [endE, g6], h.sub (by repeat' constructor)⟩

theorem newIn_any (xv : Value) (bs : List Int) (hs : bs.length ≤ 140737488355328) (w : World) (hx : RdS w (fpL []) xv 1 bs.length (ints .u8 bs)) (hw : OK w (fpL []) [] w) :
    Fn Tryz.prog 39 [xv] [] w (fun x : Nat × Option Addr × Nat => bs.length ≤ x.2.2) (fun x => .pointer (some ⟨x.1, 0, none⟩)) (fun x => [inR x.1 (.slice x.2.1 bs.length x.2.2) false, ownR (.slice x.2.1 bs.length x.2.2) 5 1 bs.length (ints .u8 bs)]) := by
  refine enterF Tryz.func39 rfl Tryz.ntmps39 rfl hw ?_
  refine WC.seq ?_
  refine WC.region ?_
  refine WL.y (Yl.assign rfl) rfl ?_
  refine WL.nil ?_
  refine WC.seq ?_
  refine WC.region ?_
  refine WL.to (To.buildSlice (vs := []) un58 zs5 rfl rfl (by simp [Value.cells]) (by decide) (by decide)) rfl ?_
  intro b3
  refine WL.view (fun w h => h.blkOwn (b := b3) (size := 1) (n := 0) (by repeat constructor) (by unfold maxLen; omega) rfl) ?_
  refine WL.y (Yl.move rfl) rfl ?_
  refine WL.to (To.append sl58 rfl rfl (by repeat constructor) (Reads.s hx) (ints_one _ _) (Nat.zero_add _) (by rfl) (by unfold maxLen; omega) (by omega)) rfl ?_
  rintro ⟨⟨ao5, c5⟩, hc5⟩
  dsimp only at hc5 ⊢
  refine WL.y (Yl.build rfl (cs := [.slice ao5 bs.length c5, .bool false]) (fun _ => by kernel_rfl)) rfl ?_
  refine WL.to (To.box rfl rfl) rfl ?_
  intro b7
  refine WL.y (Yl.assign rfl) rfl ?_
  refine WL.nil ?_
  refine WC.ret ?_
  repeat (with_reducible (first | refine peelT ?_ | refine peelB ?_ | refine peelTX ?_ | refine peelBX ?_ | refine peelBN ?_ | refine peelBO rfl ?_))
  exact ret1 (.inr rfl) Tryz.results39 rfl fun w' h => ⟨(b7, ao5, c5), hc5, rfl, h.sub (by repeat' constructor)⟩
end Go.Proofs.YtfobhdmhjjafcaaGreatDoorRR

namespace Go.Proofs.YtfobhdmhjjafcaaGreatDoorRR
open Go Go.RowKit
def b8 (l : List Int) : List (List Int) := l.map (be · 8)

end Go.Proofs.YtfobhdmhjjafcaaGreatDoorRR

namespace Go.Proofs.YtfobhdmhjjafcaaGreatDoorRR
open Go Go.RowKit
def b4 (l : List Int) : List (List Int) := l.map (be · 4)

/-- How many there are, taken: whether it is wrong then. -/
def mnW (bs : List Int) (wr : Bool) (most : Int) : Bool := tkW 2 bs wr || decide (most < val (tkR 2 bs wr))
theorem val2 {bs : List Int} (h : Bytes bs) (wr : Bool) : 0 ≤ val (tkR 2 bs wr) ∧ val (tkR 2 bs wr) < 65536 := by
  have hv := val_range (h.tkR 2 wr)
  have hT := tkR_len 2 bs wr
  have : (tkR 2 bs wr).length = 0 ∨ (tkR 2 bs wr).length = 1 ∨ (tkR 2 bs wr).length = 2 := by omega
  rcases this with h | h | h <;> rw [h] at hv <;> simp at hv <;> omega

theorem inMany_any (b : Nat) (ao : Option Addr) (cap : Nat) (bs : List Int) (wr : Bool) (most : Int) (r : Res) (hr : RdOf r (.slice ao bs.length cap) 1 bs.length (ints .u8 bs)) (hc : bs.length ≤ cap) (hB : Bytes bs) (w : World) (hw : OK w (fpL [inR b (.slice ao bs.length cap) wr, r]) [inR b (.slice ao bs.length cap) wr, r] w) :
    Fn Tryz.prog 78 [.pointer (some ⟨b, 0, none⟩), .int .i64 most] [inR b (.slice ao bs.length cap) wr, r] w (NxΦ r 2 bs wr) (fun _ => .int .i64 (if mnW bs wr most then -1 else val (tkR 2 bs wr))) (fun x => [inR b (.slice x.1 (tkB 2 bs wr).length x.2) (mnW bs wr most), r]) := by
  have hv := val2 hB wr
  refine enterF Tryz.func78 rfl Tryz.ntmps78 rfl hw ?_
  refine WC.seq ?_
  refine WC.region ?_
  refine WL.y (Yl.assign rfl) rfl ?_
  refine WL.nil ?_
  refine WC.seq ?_
  refine WC.region ?_
  refine WL.y (Yl.move rfl) rfl ?_
  refine WL.callC (xs := [.tmp 6, _]) (cap := []) rfl rfl en77 (by repeat' constructor) (fun w hw => next_any b ao cap 2 bs wr r hr hc hB (by omega) w hw.left.here) rfl ?_
  intro x hx
  refine WL.y (Yl.conv un66 un3 rfl (IntWalk.i64_in _ (by omega))) rfl ?_
  refine WL.y (Yl.assign rfl) rfl ?_
  refine WL.nil ?_
  refine WC.seq ?_
  refine WC.seq ?_
  refine WC.region ?_
  refine WL.y (Yl.move rfl) rfl ?_
  refine WL.y (Yl.nilNe un91 rfl rfl) rfl ?_
  refine WL.know (t := 10) (b' := true) rfl (by first | rfl | (simp; done) | (simp; omega)) ?_
  refine WL.y (Yl.move rfl) rfl ?_
  refine WL.on rfl rfl ?_
  refine WL.y (Yl.move rfl) rfl ?_
  refine WL.on rfl rfl ?_
  refine WL.y (Yl.move rfl) rfl ?_
  refine WL.on rfl rfl ?_
  refine WL.y (Yl.gtr rfl rfl) rfl ?_
  refine WL.y (Yl.pickT rfl rfl) rfl ?_
  refine WL.nil ?_
  refine WC.condD rfl (fun g15 => ?_) (fun g15 => ?_)
  · refine WC.region ?_
    refine WL.y (Yl.move rfl) rfl ?_
    refine WL.y (Yl.nilCheck rfl) rfl ?_
    refine WL.y (Yl.field fo139_1 rfl) rfl ?_
    refine WL.sto (Sto.one sz4 rfl rfl (by repeat constructor) rfl (by rfl) (by rfl)) (fun _ h => nomatch h) ?_
    refine WL.nil ?_
    refine WC.seq ?_
    refine WC.seq ?_
    refine WC.region ?_
    refine WL.y (Yl.move rfl) rfl ?_
    refine WL.y (Yl.nilEq un91 rfl rfl) rfl ?_
    refine WL.know (t := 20) (b' := false) rfl (by first | rfl | (simp; done) | (simp; omega)) ?_
    refine WL.y (Yl.move rfl) rfl ?_
    refine WL.on rfl rfl ?_
    refine WL.y (Yl.move rfl) rfl ?_
    refine WL.on rfl rfl ?_
    refine WL.y (Yl.nilCheck rfl) rfl ?_
    refine WL.on rfl rfl ?_
    refine WL.y (Yl.field fo139_1 rfl) rfl ?_
    refine WL.on rfl rfl ?_
    refine WL.y (Yl.load on4 rfl (by repeat constructor) (by rfl)) rfl ?_
    refine WL.say (t := 25) (v' := .bool (mnW bs wr most)) rfl (by (show Value.bool true = _; unfold mnW; rw [decide_eq_true g15, Bool.or_true])) ?_
    refine WL.y (Yl.pickF rfl rfl) rfl ?_
    refine WL.nil ?_
    refine WC.cond rfl (fun g26 => ?_) (fun g26 => ?_)
    · refine WC.seq ?_
      refine WC.region ?_
      refine WL.y (Yl.assign rfl) rfl ?_
      refine WL.nil ?_
      refine WC.ret ?_
      repeat (with_reducible (first | refine peelT ?_ | refine peelB ?_ | refine peelTX ?_ | refine peelBX ?_ | refine peelBN ?_ | refine peelBO rfl ?_))
      rw [g26, if_pos rfl]
      exact ret1 (.inr rfl) Tryz.results78 rfl fun w' h => ⟨x, hx, rfl, h.sub (by repeat' constructor)⟩
    · refine WC.skip ?_
      refine WC.seq ?_
      refine WC.region ?_
      refine WL.y (Yl.move rfl) rfl ?_
      refine WL.y (Yl.assign rfl) rfl ?_
      refine WL.nil ?_
      refine WC.ret ?_
      repeat (with_reducible (first | refine peelT ?_ | refine peelB ?_ | refine peelTX ?_ | refine peelBX ?_ | refine peelBN ?_ | refine peelBO rfl ?_))
      exact absurd g26 (by unfold mnW; rw [decide_eq_true g15]; simp)
  · refine WC.skip ?_
    refine WC.seq ?_
    refine WC.seq ?_
    refine WC.region ?_
    refine WL.y (Yl.move rfl) rfl ?_
    refine WL.y (Yl.nilEq un91 rfl rfl) rfl ?_
    refine WL.know (t := 20) (b' := false) rfl (by first | rfl | (simp; done) | (simp; omega)) ?_
    refine WL.y (Yl.move rfl) rfl ?_
    refine WL.on rfl rfl ?_
    refine WL.y (Yl.move rfl) rfl ?_
    refine WL.on rfl rfl ?_
    refine WL.y (Yl.nilCheck rfl) rfl ?_
    refine WL.on rfl rfl ?_
    refine WL.y (Yl.field fo139_1 rfl) rfl ?_
    refine WL.on rfl rfl ?_
    refine WL.y (Yl.load on4 rfl (by repeat constructor) (by rfl)) rfl ?_
    refine WL.say (t := 25) (v' := .bool (mnW bs wr most)) rfl (by (unfold mnW; rw [decide_eq_false g15, Bool.or_false])) ?_
    refine WL.y (Yl.pickF rfl rfl) rfl ?_
    refine WL.nil ?_
    refine WC.cond rfl (fun g26 => ?_) (fun g26 => ?_)
    · refine WC.seq ?_
      refine WC.region ?_
      refine WL.y (Yl.assign rfl) rfl ?_
      refine WL.nil ?_
      refine WC.ret ?_
      repeat (with_reducible (first | refine peelT ?_ | refine peelB ?_ | refine peelTX ?_ | refine peelBX ?_ | refine peelBN ?_ | refine peelBO rfl ?_))
      have e : mnW bs wr most = tkW 2 bs wr := by unfold mnW; rw [decide_eq_false g15, Bool.or_false]
      rw [e] at g26 ⊢
      rw [if_pos g26]
      exact ret1 (.inr rfl) Tryz.results78 rfl fun w' h => ⟨x, hx, rfl, h.sub (by repeat' constructor)⟩
    · refine WC.skip ?_
      refine WC.seq ?_
      refine WC.region ?_
      refine WL.y (Yl.move rfl) rfl ?_
      refine WL.y (Yl.assign rfl) rfl ?_
      refine WL.nil ?_
      refine WC.ret ?_
      repeat (with_reducible (first | refine peelT ?_ | refine peelB ?_ | refine peelTX ?_ | refine peelBX ?_ | refine peelBN ?_ | refine peelBO rfl ?_))
      have e : mnW bs wr most = tkW 2 bs wr := by unfold mnW; rw [decide_eq_false g15, Bool.or_false]
      rw [e] at g26 ⊢
      rw [if_neg (by rw [g26]; simp)]
      exact ret1 (.inr rfl) Tryz.results78 rfl fun w' h => ⟨x, hx, rfl, h.sub (by repeat' constructor)⟩

theorem tkB_true (k : Nat) (bs : List Int) : tkB k bs true = bs := by simp [tkB, tkOk]
theorem tkW_true (k : Nat) (bs : List Int) : tkW k bs true = true := by simp [tkW, tkOk]
end Go.Proofs.YtfobhdmhjjafcaaGreatDoorRR
