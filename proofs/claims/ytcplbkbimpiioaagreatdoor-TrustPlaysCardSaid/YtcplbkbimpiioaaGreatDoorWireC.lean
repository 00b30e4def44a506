/- What is taken: the walks. -/
import Derived.Test.YtcplbkbimpiioaaGreatDoorFacts
import Derived.Test.YtcplbkbimpiioaaGreatDoorWireP
import Derived.Test.YtcplbkbimpiioaaGreatDoorLibY
namespace Go.Proofs.YtcplbkbimpiioaaGreatDoor
open Go Go.RowKit

abbrev inR (b : Nat) (v : Value) (wr : Bool) : Res := blkR b 136 [v, .bool wr]

abbrev TkΦ (r : Res) (k : Nat) (bs : List Int) (wr : Bool) (x : (Option Addr × Nat) × (Option Addr × Nat)) : Prop :=
  RdOf r (.slice x.1.1 (tkR k bs wr).length x.1.2) 1 (tkR k bs wr).length (ints .u8 (tkR k bs wr)) ∧ (tkR k bs wr).length ≤ x.1.2 ∧
  RdOf r (.slice x.2.1 (tkB k bs wr).length x.2.2) 1 (tkB k bs wr).length (ints .u8 (tkB k bs wr)) ∧ (tkB k bs wr).length ≤ x.2.2

theorem take_any (b : Nat) (ao : Option Addr) (cap k : Nat) (bs : List Int) (wr : Bool) (r : Res) (hr : RdOf r (.slice ao bs.length cap) 1 bs.length (ints .u8 bs)) (hc : bs.length ≤ cap) (w : World) (hw : OK w (fpL [inR b (.slice ao bs.length cap) wr, r]) [inR b (.slice ao bs.length cap) wr, r] w) :
    Fn Tryz.prog 99 [.pointer (some ⟨b, 0, none⟩), .int .i64 (k : Int)] [inR b (.slice ao bs.length cap) wr, r] w (TkΦ r k bs wr) (fun x => .slice x.1.1 (tkR k bs wr).length x.1.2) (fun x => [inR b (.slice x.2.1 (tkB k bs wr).length x.2.2) (tkW k bs wr), r]) := by
  refine enterF Tryz.func99 rfl Tryz.ntmps99 rfl hw ?_
  refine WC.seq ?_
  refine WC.region ?_
  refine WL.y (Yl.assign rfl) rfl ?_
  refine WL.nil ?_
  refine WC.seq ?_
  refine WC.seq ?_
  refine WC.region ?_
  refine WL.y (Yl.move rfl) rfl ?_
  refine WL.y (Yl.nilEq un85 rfl rfl) rfl ?_
  refine WL.nil ?_
  refine WC.condF rfl (by first | rfl | (simp; done) | (simp; omega)) ?_
  refine WC.skip ?_
  refine WC.seq ?_
  refine WC.midK [] [inR b (.slice ao bs.length cap) (tkW k bs wr), r] ?_ ?_
  · refine WC.region ?_
    refine WL.y (Yl.move rfl) rfl ?_
    refine WL.y (Yl.move rfl) rfl ?_
    refine WL.y (Yl.nilCheck rfl) rfl ?_
    refine WL.y (Yl.field fo136_1 rfl) rfl ?_
    refine WL.y (Yl.load on4 rfl (by repeat constructor) (by rfl)) rfl ?_
    refine WL.y (Yl.move rfl) rfl ?_
    refine WL.both (t := 13) rfl (fun g13 => ?_) (fun g13 => ?_)
    · refine WL.off rfl rfl rfl rfl ?_
      refine WL.off rfl rfl rfl rfl ?_
      refine WL.y (Yl.pickT rfl rfl) rfl ?_
      refine WL.y (Yl.move rfl) rfl ?_
      refine WL.off rfl rfl rfl rfl ?_
      refine WL.off rfl rfl rfl rfl ?_
      refine WL.off rfl rfl rfl rfl ?_
      refine WL.off rfl rfl rfl rfl ?_
      refine WL.off rfl rfl rfl rfl ?_
      refine WL.off rfl rfl rfl rfl ?_
      refine WL.off rfl rfl rfl rfl ?_
      refine WL.y (Yl.pickT rfl rfl) rfl ?_
      refine WL.say (t := 25) (v' := .bool (tkW k bs wr)) rfl (by first | (rw [g13]; rfl) | (rw [g13, tkW_F])) ?_
      refine WL.y (Yl.nilCheck rfl) rfl ?_
      refine WL.y (Yl.field fo136_1 rfl) rfl ?_
      refine WL.sto (Sto.one sz4 rfl rfl (by repeat constructor) rfl (by rfl) (by rfl)) (fun _ h => nomatch h) ?_
      refine WL.nil ?_
      exact ⟨rfl, (by repeat' constructor), (by repeat' constructor), _, (by repeat' constructor)⟩
    · refine WL.on rfl rfl ?_
      refine WL.y (Yl.move rfl) rfl ?_
      refine WL.on rfl rfl ?_
      refine WL.y (Yl.lss rfl rfl) rfl ?_
      refine WL.know (t := 15) (b' := false) rfl (by first | rfl | (simp; done) | (simp; omega)) ?_
      refine WL.y (Yl.pickF rfl rfl) rfl ?_
      refine WL.y (Yl.move rfl) rfl ?_
      refine WL.on rfl rfl ?_
      refine WL.y (Yl.move rfl) rfl ?_
      refine WL.on rfl rfl ?_
      refine WL.y (Yl.move rfl) rfl ?_
      refine WL.on rfl rfl ?_
      refine WL.y (Yl.nilCheck rfl) rfl ?_
      refine WL.on rfl rfl ?_
      refine WL.y (Yl.field fo136_0 rfl) rfl ?_
      refine WL.on rfl rfl ?_
      refine WL.y (Yl.load on54 rfl (by repeat constructor) (by rfl)) rfl ?_
      refine WL.on rfl rfl ?_
      refine WL.y (Yl.len un54 rfl) rfl ?_
      refine WL.on rfl rfl ?_
      refine WL.y (Yl.gtr rfl rfl) rfl ?_
      refine WL.y (Yl.pickF rfl rfl) rfl ?_
      refine WL.say (t := 25) (v' := .bool (tkW k bs wr)) rfl (by first | (rw [g13]; rfl) | (rw [g13, tkW_F])) ?_
      refine WL.y (Yl.nilCheck rfl) rfl ?_
      refine WL.y (Yl.field fo136_1 rfl) rfl ?_
      refine WL.sto (Sto.one sz4 rfl rfl (by repeat constructor) rfl (by rfl) (by rfl)) (fun _ h => nomatch h) ?_
      refine WL.nil ?_
      exact ⟨rfl, (by repeat' constructor), (by repeat' constructor), _, (by repeat' constructor)⟩
  · refine WC.seq ?_
    refine WC.region ?_
    refine WL.y (Yl.move rfl) rfl ?_
    refine WL.y (Yl.nilCheck rfl) rfl ?_
    refine WL.y (Yl.field fo136_1 rfl) rfl ?_
    refine WL.y (Yl.load on4 rfl (by repeat constructor) (by rfl)) rfl ?_
    skip
    refine WL.nil ?_
    refine WC.cond rfl (fun g31 => ?_) (fun g31 => ?_)
    · refine WC.seq ?_
      refine WC.region ?_
      refine WL.y (Yl.assign rfl) rfl ?_
      refine WL.nil ?_
      refine WC.ret ?_
      repeat (with_reducible (first | refine peelT ?_ | refine peelB ?_ | refine peelTX ?_ | refine peelBX ?_ | refine peelBN ?_ | refine peelBO rfl ?_))
      have e0 : tkOk k bs wr = false := by simpa [tkW] using g31
      have e1 : tkR k bs wr = [] := by simp [tkR, e0]
      have e2 : tkB k bs wr = bs := by simp [tkB, e0]
      refine ret1 (.inr rfl) Tryz.results99 rfl fun w' h => ⟨((none, 0), (ao, cap)), ?_, by rw [e1]; rfl, ?_⟩
      · unfold TkΦ; rw [e1, e2]; exact ⟨⟨fun _ _ => Rd.nil _ _⟩, by simp, hr, hc⟩
      · rw [e2]; exact h.sub (by repeat' constructor)
    · refine WC.skip ?_
      refine WC.seq ?_
      refine WC.region ?_
      refine WL.y (Yl.move rfl) rfl ?_
      refine WL.y (Yl.nilCheck rfl) rfl ?_
      have e0 : tkOk k bs wr = true := by simpa [tkW] using g31
      have hk : k ≤ bs.length := by simp [tkOk] at e0; exact e0.2
      have e1 : tkR k bs wr = bs.take k := by simp [tkR, e0]
      have e2 : tkB k bs wr = bs.drop k := by simp [tkB, e0]
      have e3 : (bs.take k).length = k := by simp; omega
      have e4 : (bs.drop k).length = bs.length - k := by simp
      refine WL.y (Yl.field fo136_0 rfl) rfl ?_
      refine WL.y (Yl.load on54 rfl (by repeat constructor) (by rfl)) rfl ?_
      refine WL.y (Yl.move rfl) rfl ?_
      refine WL.y (Yl.move rfl) rfl ?_
      refine WL.y (Yl.slice3 un54 sz5 rfl rfl rfl (by omega) (by omega)) rfl ?_
      refine WL.y (Yl.assign rfl) rfl ?_
      refine WL.nil ?_
      refine WC.seq ?_
      refine WC.region ?_
      refine WL.y (Yl.move rfl) rfl ?_
      refine WL.y (Yl.move rfl) rfl ?_
      refine WL.y (Yl.nilCheck rfl) rfl ?_
      refine WL.y (Yl.field fo136_0 rfl) rfl ?_
      refine WL.y (Yl.load on54 rfl (by repeat constructor) (by rfl)) rfl ?_
      refine WL.y (Yl.move rfl) rfl ?_
      refine WL.y (Yl.slice un54 sz5 rfl ⟨_, rfl⟩ rfl (by omega) (by omega)) rfl ?_
      refine WL.y (Yl.nilCheck rfl) rfl ?_
      refine WL.y (Yl.field fo136_0 rfl) rfl ?_
      refine WL.sto (Sto.one sz54 rfl rfl (by repeat constructor) rfl (by rfl) (by rfl)) (fun _ h => nomatch h) ?_
      refine WL.nil ?_
      refine WC.seq ?_
      refine WC.region ?_
      refine WL.y (Yl.move rfl) rfl ?_
      refine WL.y (Yl.assign rfl) rfl ?_
      refine WL.nil ?_
      refine WC.ret ?_
      repeat (with_reducible (first | refine peelT ?_ | refine peelB ?_ | refine peelTX ?_ | refine peelBX ?_ | refine peelBN ?_ | refine peelBO rfl ?_))
      refine ret1 (.inr rfl) Tryz.results99 rfl fun w' h => ⟨((if k = 0 then ao else ao.map (·.add (0 * 1)), k), (if cap = k then ao else ao.map (·.add (k * 1)), cap - k)), ?_, by rw [e1, e3]; rfl, ?_⟩
      · unfold TkΦ
        rw [e1, e2, e3, e4]
        have q1 := hr.sub3 (m := k) hk (cs' := ints .u8 (bs.take k)) (by rw [Nat.mul_one, ints_take])
        have q2 := hr.sub (l := k) (h := bs.length) hk (Nat.le_refl _) (cs' := ints .u8 (bs.drop k)) (by rw [Nat.mul_one, Nat.mul_one, ints_drop, ints_take, List.take_of_length_le (by simp)])
        exact ⟨q1, Nat.le_refl _, q2, by dsimp only; omega⟩
      · rw [e2, e4]; exact h.sub (by repeat' constructor)
abbrev NxΦ (r : Res) (k : Nat) (bs : List Int) (wr : Bool) (x : Option Addr × Nat) : Prop :=
  RdOf r (.slice x.1 (tkB k bs wr).length x.2) 1 (tkB k bs wr).length (ints .u8 (tkB k bs wr)) ∧ (tkB k bs wr).length ≤ x.2

theorem next_any (b : Nat) (ao : Option Addr) (cap k : Nat) (bs : List Int) (wr : Bool) (r : Res) (hr : RdOf r (.slice ao bs.length cap) 1 bs.length (ints .u8 bs)) (hc : bs.length ≤ cap) (hB : Bytes bs) (hk : k ≤ 8) (w : World) (hw : OK w (fpL [inR b (.slice ao bs.length cap) wr, r]) [inR b (.slice ao bs.length cap) wr, r] w) :
    Fn Tryz.prog 74 [.pointer (some ⟨b, 0, none⟩), .int .i64 (k : Int)] [inR b (.slice ao bs.length cap) wr, r] w (NxΦ r k bs wr) (fun _ => .int .u64 (val (tkR k bs wr))) (fun x => [inR b (.slice x.1 (tkB k bs wr).length x.2) (tkW k bs wr), r]) := by
  have hT := tkR_len k bs wr
  have hTB := hB.tkR k wr
  generalize hTT : tkR k bs wr = T at hT hTB
  refine enterF Tryz.func74 rfl Tryz.ntmps74 rfl hw ?_
  refine WC.seq ?_
  refine WC.region ?_
  refine WL.y (Yl.assign rfl) rfl ?_
  refine WL.nil ?_
  refine WC.seq ?_
  refine WC.region ?_
  refine WL.y (Yl.assign rfl) rfl ?_
  refine WL.nil ?_
  refine WC.seq ?_
  refine WC.seq ?_
  refine WC.region ?_
  refine WL.y (Yl.move rfl) rfl ?_
  refine WL.y (Yl.move rfl) rfl ?_
  refine WL.callC (xs := [.tmp 8, .tmp 9]) (cap := []) rfl rfl en99 (by repeat' constructor) (fun w hw => take_any b ao cap k bs wr r hr hc w hw.left.here) rfl ?_
  rintro ⟨⟨a1, c1⟩, ⟨a2, c2⟩⟩ ⟨q1, q2, q3, q4⟩
  dsimp only at q1 q2 q3 q4 ⊢
  rw [hTT] at q1 q2 ⊢
  refine WL.y (Yl.len un54 rfl) rfl ?_
  refine WL.y (Yl.move rfl) rfl ?_
  refine WL.nil ?_
  refine WC.block ?_
  refine WC.loop (α := Nat) (fun j => [(5, .int .u64 (val (T.take j))), (10, .slice a1 T.length c1), (11, .int .i64 (T.length : Int)), (12, .int .i64 (j : Int))]) (fun _ => [inR b (.slice a2 (tkB k bs wr).length c2) (tkW k bs wr), r]) (fun j => j ≤ T.length) (fun j => T.length - j) 0 (Nat.zero_le _) ⟨(by repeat' constructor), _, (by repeat' constructor)⟩ ?_
  intro j hj
  refine WC.seq ?_
  refine WC.region ?_
  refine WL.y (Yl.lss rfl rfl) rfl ?_
  refine WL.nil ?_
  refine WC.seq ?_
  refine WC.condD rfl (fun g13 => ?_) (fun g13 => ?_)
  · refine WC.skip ?_
    refine WC.seq ?_
    refine WC.block ?_
    refine WC.seq ?_
    refine WC.region ?_
    have hx := hTB.getD (i := j) (by omega)
    have hv := val_range (hTB.take j)
    have hp := pow256 (n := (T.take j).length + 1) (by simp; omega)
    rw [Int.pow_succ] at hp
    refine WL.y (Yl.index un54 sz5 rfl rfl (Reads.of q1 (by repeat constructor)) rfl (by omega)) rfl ?_
    refine WL.y (Yl.loadE on5 rfl (Reads.of q1 (by repeat constructor)) (ints_get .u8 T j (by omega))) rfl ?_
    refine WL.y (Yl.assign rfl) rfl ?_
    refine WL.nil ?_
    refine WC.region ?_
    refine WL.y (Yl.move rfl) rfl ?_
    refine WL.y (Yl.shl rfl rfl ⟨by omega, by decide⟩ (sh8 _ hv.1 (by omega))) rfl ?_
    refine WL.y (Yl.move rfl) rfl ?_
    refine WL.y (Yl.conv un5 un122 rfl (u64_in _ (by omega))) rfl ?_
    refine WL.y (Yl.or rfl rfl) rfl ?_
    refine WL.say (t := 20) (v' := .int .u64 (val (T.take (j + 1)))) rfl (by rw [or_byte _ _ hv.1 (by omega) hx, take_getD (show j < T.length by omega), val_snoc]) ?_
    refine WL.y (Yl.assign rfl) rfl ?_
    refine WL.nil ?_
    refine WC.region ?_
    refine WL.y (Yl.add rfl rfl (IntWalk.i64_in _ (by omega))) rfl ?_
    refine WL.y (Yl.move rfl) rfl ?_
    refine WL.nil ?_
    exact ⟨rfl, j + 1, by omega, by omega, (by repeat' constructor), _, (by repeat' constructor)⟩
  · refine WC.exit ?_
    refine WC.seq ?_
    refine WC.region ?_
    refine WL.y (Yl.move rfl) rfl ?_
    refine WL.y (Yl.assign rfl) rfl ?_
    refine WL.nil ?_
    refine WC.ret ?_
    repeat (with_reducible (first | refine peelT ?_ | refine peelB ?_ | refine peelTX ?_ | refine peelBX ?_ | refine peelBN ?_ | refine peelBO rfl ?_))
    have hj2 : j = T.length := by omega
    subst hj2
    refine ret1 (.inr rfl) Tryz.results74 rfl fun w' h => ⟨(a2, c2), ⟨q3, q4⟩, by rw [List.take_length], h.sub (by repeat' constructor)⟩

theorem inFixed_any (b : Nat) (ao : Option Addr) (cap k : Nat) (bs : List Int) (wr : Bool) (r : Res) (hr : RdOf r (.slice ao bs.length cap) 1 bs.length (ints .u8 bs)) (hc : bs.length ≤ cap) (w : World) (hw : OK w (fpL [inR b (.slice ao bs.length cap) wr, r]) [inR b (.slice ao bs.length cap) wr, r] w) :
    Fn Tryz.prog 76 [.pointer (some ⟨b, 0, none⟩), .int .i64 (k : Int)] [inR b (.slice ao bs.length cap) wr, r] w (TkΦ r k bs wr) (fun x => .slice x.1.1 (tkR k bs wr).length x.1.2) (fun x => [inR b (.slice x.2.1 (tkB k bs wr).length x.2.2) (tkW k bs wr), r]) := by
  refine enterF Tryz.func76 rfl Tryz.ntmps76 rfl hw ?_
  refine WC.seq ?_
  refine WC.region ?_
  refine WL.y (Yl.assign rfl) rfl ?_
  refine WL.nil ?_
  refine WC.seq ?_
  refine WC.region ?_
  refine WL.y (Yl.move rfl) rfl ?_
  refine WL.y (Yl.move rfl) rfl ?_
  refine WL.callC (xs := [.tmp 5, .tmp 6]) (cap := []) rfl rfl en99 (by repeat' constructor) (fun w hw => take_any b ao cap k bs wr r hr hc w hw.left.here) rfl ?_
  intro x hx
  refine WL.y (Yl.assign rfl) rfl ?_
  refine WL.nil ?_
  refine WC.ret ?_
  repeat (with_reducible (first | refine peelT ?_ | refine peelB ?_ | refine peelTX ?_ | refine peelBX ?_ | refine peelBN ?_ | refine peelBO rfl ?_))
  exact ret1 (.inr rfl) Tryz.results76 rfl fun w' h => ⟨x, hx, rfl, h.sub (by repeat' constructor)⟩

theorem inU8_any (b : Nat) (ao : Option Addr) (cap : Nat) (bs : List Int) (wr : Bool) (r : Res) (hr : RdOf r (.slice ao bs.length cap) 1 bs.length (ints .u8 bs)) (hc : bs.length ≤ cap) (hB : Bytes bs) (w : World) (hw : OK w (fpL [inR b (.slice ao bs.length cap) wr, r]) [inR b (.slice ao bs.length cap) wr, r] w) :
    Fn Tryz.prog 39 [.pointer (some ⟨b, 0, none⟩)] [inR b (.slice ao bs.length cap) wr, r] w (NxΦ r 1 bs wr) (fun _ => .int .u8 (val (tkR 1 bs wr))) (fun x => [inR b (.slice x.1 (tkB 1 bs wr).length x.2) (tkW 1 bs wr), r]) := by
  have hv := val1 hB wr
  refine enterF Tryz.func39 rfl Tryz.ntmps39 rfl hw ?_
  refine WC.seq ?_
  refine WC.region ?_
  refine WL.y (Yl.assign rfl) rfl ?_
  refine WL.nil ?_
  refine WC.seq ?_
  refine WC.region ?_
  refine WL.y (Yl.move rfl) rfl ?_
  refine WL.callC (xs := [.tmp 3, _]) (cap := []) rfl rfl en74 (by repeat' constructor) (fun w hw => next_any b ao cap 1 bs wr r hr hc hB (by omega) w hw.left.here) rfl ?_
  intro x hx
  refine WL.y (Yl.conv un122 un5 rfl (IntWalk.u8_in _ (by omega))) rfl ?_
  refine WL.y (Yl.assign rfl) rfl ?_
  refine WL.nil ?_
  refine WC.ret ?_
  repeat (with_reducible (first | refine peelT ?_ | refine peelB ?_ | refine peelTX ?_ | refine peelBX ?_ | refine peelBN ?_ | refine peelBO rfl ?_))
  exact ret1 (.inr rfl) Tryz.results39 rfl fun w' h => ⟨x, hx, rfl, h.sub (by repeat' constructor)⟩

/-- How it ends. -/
def endE (bs : List Int) (wr : Bool) : Int := if wr || decide (0 < bs.length) then 9 else 0

theorem inEnd_any (b : Nat) (ao : Option Addr) (cap : Nat) (bs : List Int) (wr : Bool) (w : World) (hw : OK w (fpL [inR b (.slice ao bs.length cap) wr]) [inR b (.slice ao bs.length cap) wr] w) :
    Fn Tryz.prog 46 [.pointer (some ⟨b, 0, none⟩)] [inR b (.slice ao bs.length cap) wr] w (fun _ : Unit => True) (fun _ => .int .i64 (endE bs wr)) (fun _ => [inR b (.slice ao bs.length cap) wr]) := by
  refine enterF Tryz.func46 rfl Tryz.ntmps46 rfl hw ?_
  refine WC.seq ?_
  refine WC.region ?_
  refine WL.y (Yl.assign rfl) rfl ?_
  refine WL.nil ?_
  refine WC.seq ?_
  refine WC.block ?_
  refine WC.seq ?_
  refine WC.region ?_
  refine WL.y (Yl.move rfl) rfl ?_
  refine WL.y (Yl.nilEq un85 rfl rfl) rfl ?_
  refine WL.y (Yl.assign rfl) rfl ?_
  refine WL.nil ?_
  refine WC.condF rfl (by first | rfl | (simp; done) | (simp; omega)) ?_
  refine WC.seq ?_
  refine WC.region ?_
  refine WL.y (Yl.move rfl) rfl ?_
  refine WL.y (Yl.nilCheck rfl) rfl ?_
  refine WL.y (Yl.field fo136_1 rfl) rfl ?_
  refine WL.y (Yl.load on4 rfl (by repeat constructor) (by rfl)) rfl ?_
  refine WL.y (Yl.move rfl) rfl ?_
  refine WL.both (t := 11) rfl (fun g11 => ?_) (fun g11 => ?_)
  · refine WL.off rfl rfl rfl rfl ?_
    refine WL.off rfl rfl rfl rfl ?_
    refine WL.off rfl rfl rfl rfl ?_
    refine WL.off rfl rfl rfl rfl ?_
    refine WL.off rfl rfl rfl rfl ?_
    refine WL.off rfl rfl rfl rfl ?_
    refine WL.y (Yl.pickT rfl rfl) rfl ?_
    refine WL.say (t := 18) (v' := .bool (wr || decide (0 < bs.length))) rfl (by simp [g11]) ?_
    refine WL.y (Yl.assign rfl) rfl ?_
    refine WL.nil ?_
    refine WC.cond rfl (fun g6 => ?_) (fun g6 => ?_)
    · refine WC.seq ?_
      refine WC.region ?_
      refine WL.y (Yl.assign rfl) rfl ?_
      refine WL.nil ?_
      refine WC.ret ?_
      repeat (with_reducible (first | refine peelT ?_ | refine peelB ?_ | refine peelTX ?_ | refine peelBX ?_ | refine peelBN ?_ | refine peelBO rfl ?_))
      exact ret1 (.inr rfl) Tryz.results46 rfl fun w' h => ⟨(), trivial, by simp [endE, g6], h.sub (by repeat' constructor)⟩
    · refine WC.skip ?_
      refine WC.seq ?_
      refine WC.region ?_
      refine WL.y (Yl.assign rfl) rfl ?_
      refine WL.nil ?_
      refine WC.ret ?_
      repeat (with_reducible (first | refine peelT ?_ | refine peelB ?_ | refine peelTX ?_ | refine peelBX ?_ | refine peelBN ?_ | refine peelBO rfl ?_))
      exact ret1 (.inr rfl) Tryz.results46 rfl fun w' h => ⟨(), trivial, by simp [endE, g6], h.sub (by repeat' constructor)⟩
  · refine WL.on rfl rfl ?_
    refine WL.y (Yl.move rfl) rfl ?_
    refine WL.on rfl rfl ?_
    refine WL.y (Yl.nilCheck rfl) rfl ?_
    refine WL.on rfl rfl ?_
    refine WL.y (Yl.field fo136_0 rfl) rfl ?_
    refine WL.on rfl rfl ?_
    refine WL.y (Yl.load on54 rfl (by repeat constructor) (by rfl)) rfl ?_
    refine WL.on rfl rfl ?_
    refine WL.y (Yl.len un54 rfl) rfl ?_
    refine WL.on rfl rfl ?_
    refine WL.y (Yl.gtr rfl rfl) rfl ?_
    refine WL.y (Yl.pickF rfl rfl) rfl ?_
    refine WL.say (t := 18) (v' := .bool (wr || decide (0 < bs.length))) rfl (by simp [g11]) ?_
    refine WL.y (Yl.assign rfl) rfl ?_
    refine WL.nil ?_
    refine WC.cond rfl (fun g6 => ?_) (fun g6 => ?_)
    · refine WC.seq ?_
      refine WC.region ?_
      refine WL.y (Yl.assign rfl) rfl ?_
      refine WL.nil ?_
      refine WC.ret ?_
      repeat (with_reducible (first | refine peelT ?_ | refine peelB ?_ | refine peelTX ?_ | refine peelBX ?_ | refine peelBN ?_ | refine peelBO rfl ?_))
      exact ret1 (.inr rfl) Tryz.results46 rfl fun w' h => ⟨(), trivial, by simp [endE, g6], h.sub (by repeat' constructor)⟩
    · refine WC.skip ?_
      refine WC.seq ?_
      refine WC.region ?_
      refine WL.y (Yl.assign rfl) rfl ?_
      refine WL.nil ?_
      refine WC.ret ?_
      repeat (with_reducible (first | refine peelT ?_ | refine peelB ?_ | refine peelTX ?_ | refine peelBX ?_ | refine peelBN ?_ | refine peelBO rfl ?_))
      exact ret1 (.inr rfl) Tryz.results46 rfl fun w' h => ⟨(), trivial, by simp [endE, g6], h.sub (by repeat' constructor)⟩

theorem newIn_any (xv : Value) (bs : List Int) (hs : bs.length ≤ 140737488355328) (w : World) (hx : RdS w (fpL []) xv 1 bs.length (ints .u8 bs)) (hw : OK w (fpL []) [] w) :
    Fn Tryz.prog 38 [xv] [] w (fun x : Nat × Option Addr × Nat => bs.length ≤ x.2.2) (fun x => .pointer (some ⟨x.1, 0, none⟩)) (fun x => [inR x.1 (.slice x.2.1 bs.length x.2.2) false, ownR (.slice x.2.1 bs.length x.2.2) 5 1 bs.length (ints .u8 bs)]) := by
  refine enterF Tryz.func38 rfl Tryz.ntmps38 rfl hw ?_
  refine WC.seq ?_
  refine WC.region ?_
  refine WL.y (Yl.assign rfl) rfl ?_
  refine WL.nil ?_
  refine WC.seq ?_
  refine WC.region ?_
  refine WL.to (To.buildSlice (vs := []) un54 zs5 rfl rfl (by simp [Value.cells]) (by decide) (by decide)) rfl ?_
  intro b3
  refine WL.view (fun w h => h.blkOwn (b := b3) (size := 1) (n := 0) (by repeat constructor) (by unfold maxLen; omega) rfl) ?_
  refine WL.y (Yl.move rfl) rfl ?_
  refine WL.to (To.append sl54 rfl rfl (by repeat constructor) (Reads.s hx) (ints_one _ _) (Nat.zero_add _) (by rfl) (by unfold maxLen; omega) (by omega)) rfl ?_
  rintro ⟨⟨ao5, c5⟩, hc5⟩
  dsimp only at hc5 ⊢
  refine WL.y (Yl.build rfl (cs := [.slice ao5 bs.length c5, .bool false]) (fun _ => by kernel_rfl)) rfl ?_
  refine WL.to (To.box rfl rfl) rfl ?_
  intro b7
  refine WL.y (Yl.assign rfl) rfl ?_
  refine WL.nil ?_
  refine WC.ret ?_
  repeat (with_reducible (first | refine peelT ?_ | refine peelB ?_ | refine peelTX ?_ | refine peelBX ?_ | refine peelBN ?_ | refine peelBO rfl ?_))
  exact ret1 (.inr rfl) Tryz.results38 rfl fun w' h => ⟨(b7, ao5, c5), hc5, rfl, h.sub (by repeat' constructor)⟩
end Go.Proofs.YtcplbkbimpiioaaGreatDoor

namespace Go.Proofs.YtcplbkbimpiioaaGreatDoor
open Go Go.RowKit
abbrev outR (b : Nat) (v : Value) (lim : Int) (wr : Bool) : Res := blkR b 141 [v, .int .i64 lim, .bool wr]
abbrev oR (b : Nat) (x : Option Addr × Nat) (lim : Int) (bs : List Int) (wr : Bool) : List Res := [outR b (.slice x.1 bs.length x.2) lim wr, ownR (.slice x.1 bs.length x.2) 5 1 bs.length (ints .u8 bs)]

theorem newOut_any (lim : Int) (w : World) (hw : OK w (fpL []) [] w) :
    Fn Tryz.prog 48 [.int .i64 lim] [] w (fun _ : Nat => True) (fun b => .pointer (some ⟨b, 0, none⟩)) (fun b => oR b (none, 0) lim [] false) := by
  refine enterF Tryz.func48 rfl Tryz.ntmps48 rfl hw ?_
  refine WC.seq ?_
  refine WC.region ?_
  refine WL.y (Yl.assign rfl) rfl ?_
  refine WL.nil ?_
  refine WC.seq ?_
  refine WC.region ?_
  refine WL.y (Yl.move rfl) rfl ?_
  refine WL.y (Yl.build rfl (cs := [.slice none 0 0, .int .i64 lim, .bool false]) (fun _ => by kernel_rfl)) rfl ?_
  refine WL.to (To.box rfl rfl) rfl ?_
  intro b5
  refine WL.y (Yl.assign rfl) rfl ?_
  refine WL.nil ?_
  refine WC.ret ?_
  repeat (with_reducible (first | refine peelT ?_ | refine peelB ?_ | refine peelTX ?_ | refine peelBX ?_ | refine peelBN ?_ | refine peelBO rfl ?_))
  exact ret1 (.inr rfl) Tryz.results48 rfl fun w' h => ⟨b5, trivial, rfl, (h.addNil 5 1).sub (by repeat' constructor)⟩

theorem put_any (b : Nat) (x : Option Addr × Nat) (lim : Int) (bs : List Int) (wr : Bool) (xs : List Int) (xv : Value) (hlo : -9223372036854775808 ≤ lim ∧ lim ≤ 9223372036854775807) (hf : Fit lim (bs, wr)) (hsz : bs.length + xs.length ≤ 140737488355328) (w : World)
    (hx : RdS w (fpL (oR b x lim bs wr)) xv 1 xs.length (ints .u8 xs)) (hw : OK w (fpL (oR b x lim bs wr)) (oR b x lim bs wr) w) :
    Fn Tryz.prog 77 [.pointer (some ⟨b, 0, none⟩), xv] (oR b x lim bs wr) w (fun _ : Option Addr × Nat => True) (fun _ => .tuple #[]) (fun y => oR b y lim (pt lim (bs, wr) xs).1 (pt lim (bs, wr) xs).2) := by
  obtain ⟨ax, cx, rfl, hcx, hmx⟩ := hx.rd.form
  replace hf : bs.length = 0 ∨ (bs.length : Int) ≤ lim := hf
  refine enterF Tryz.func77 rfl Tryz.ntmps77 rfl hw ?_
  refine WC.seq ?_
  refine WC.seq ?_
  refine WC.region ?_
  refine WL.y (Yl.move rfl) rfl ?_
  refine WL.y (Yl.nilEq un102 rfl rfl) rfl ?_
  refine WL.know (t := 5) (b' := false) rfl (by first | rfl | (simp; done) | (simp; omega)) ?_
  refine WL.y (Yl.move rfl) rfl ?_
  refine WL.on rfl rfl ?_
  refine WL.y (Yl.move rfl) rfl ?_
  refine WL.on rfl rfl ?_
  refine WL.y (Yl.nilCheck rfl) rfl ?_
  refine WL.on rfl rfl ?_
  refine WL.y (Yl.field fo141_2 rfl) rfl ?_
  refine WL.on rfl rfl ?_
  refine WL.y (Yl.load on4 rfl (by repeat constructor) (by rfl)) rfl ?_
  refine WL.y (Yl.pickF rfl rfl) rfl ?_
  refine WL.nil ?_
  refine WC.cond rfl (fun g11 => ?_) (fun g11 => ?_)
  · refine WC.ret ?_
    repeat (with_reducible (first | refine peelT ?_ | refine peelB ?_ | refine peelTX ?_ | refine peelBX ?_ | refine peelBN ?_ | refine peelBO rfl ?_))
    subst g11
    exact ret0 (.inr rfl) rfl fun w' h => ⟨x, trivial, rfl, by rw [pt_no (by simp)]; exact h.sub (by repeat' constructor)⟩
  · refine WC.skip ?_
    refine WC.seq ?_
    refine WC.drawTail 14 mixed (by kernel_rfl) ?_
    refine WH.y (Yl.move rfl) rfl ?_
    refine WH.y (Yl.move rfl) rfl ?_
    refine WH.y (Yl.len un54 rfl) rfl ?_
    refine WH.y (Yl.move rfl) rfl ?_
    refine WH.y (Yl.nilCheck rfl) rfl ?_
    refine WH.y (Yl.field fo141_1 rfl) rfl ?_
    refine WH.y (Yl.load on3 rfl (by repeat constructor) (by rfl)) rfl ?_
    refine WH.y (Yl.move rfl) rfl ?_
    refine WH.y (Yl.nilCheck rfl) rfl ?_
    refine WH.y (Yl.field fo141_0 rfl) rfl ?_
    refine WH.y (Yl.load on54 rfl (by repeat constructor) (by rfl)) rfl ?_
    refine WH.y (Yl.len un54 rfl) rfl ?_
    refine WH.y (Yl.sub rfl rfl (IntWalk.i64_in _ (by omega))) rfl ?_
    refine WH.y (Yl.gtr rfl rfl) rfl ?_
    refine WH.say (t := 25) (v' := .bool (wr || decide (lim - bs.length < xs.length))) rfl (by rw [g11]; simp) ?_
    refine WH.nil ?_
    refine WP.y (Yl.nilCheck rfl) rfl ?_
    refine WP.y (Yl.field fo141_2 rfl) rfl ?_
    refine WP.sto (Sto.one sz4 rfl rfl (by repeat constructor) rfl (by rfl) (by rfl)) (fun _ h => nomatch h) ?_
    refine WP.nil ?_
    refine WC.seq ?_
    refine WC.region ?_
    refine WL.y (Yl.move rfl) rfl ?_
    refine WL.y (Yl.nilCheck rfl) rfl ?_
    refine WL.y (Yl.field fo141_2 rfl) rfl ?_
    refine WL.y (Yl.load on4 rfl (by repeat constructor) (by rfl)) rfl ?_
    refine WL.y (Yl.not rfl) rfl ?_
    refine WL.nil ?_
    refine WC.cond rfl (fun g32 => ?_) (fun g32 => ?_)
    · refine WC.region ?_
      refine WL.y (Yl.move rfl) rfl ?_
      refine WL.y (Yl.move rfl) rfl ?_
      refine WL.y (Yl.nilCheck rfl) rfl ?_
      refine WL.y (Yl.field fo141_0 rfl) rfl ?_
      refine WL.y (Yl.load on54 rfl (by repeat constructor) (by rfl)) rfl ?_
      refine WL.y (Yl.move rfl) rfl ?_
      refine WL.to (To.append sl54 rfl rfl (by repeat constructor) (Reads.s hx) (ints_one _ _) (N := (bs ++ xs).length) List.length_append.symm (ints_append _ _ _) (by rw [List.length_append]; unfold maxLen; omega) (by rw [List.length_append]; omega)) rfl ?_
      rintro ⟨⟨ao39, c39⟩, hc39⟩
      dsimp only at hc39 ⊢
      refine WL.y (Yl.nilCheck rfl) rfl ?_
      refine WL.y (Yl.field fo141_0 rfl) rfl ?_
      refine WL.sto (Sto.one sz54 rfl rfl (by repeat constructor) rfl (by rfl) (by rfl)) (fun _ h => nomatch h) ?_
      refine WL.nil ?_
      repeat (with_reducible (first | refine peelT ?_ | refine peelB ?_ | refine peelTX ?_ | refine peelBX ?_ | refine peelBN ?_ | refine peelBO rfl ?_))
      have e : (wr || decide (lim - (bs.length : Int) < xs.length)) = false := by
        generalize (wr || decide (lim - (bs.length : Int) < xs.length)) = q at g32
        simpa using g32
      exact ret0 (.inl rfl) rfl fun w' h => ⟨(ao39, c39), trivial, rfl, by rw [pt_yes e]; rw [e] at h; exact h.sub (by repeat' constructor)⟩
    · refine WC.skip ?_
      repeat (with_reducible (first | refine peelT ?_ | refine peelB ?_ | refine peelTX ?_ | refine peelBX ?_ | refine peelBN ?_ | refine peelBO rfl ?_))
      have e : (wr || decide (lim - (bs.length : Int) < xs.length)) = true := by
        generalize (wr || decide (lim - (bs.length : Int) < xs.length)) = q at g32
        simpa using g32
      exact ret0 (.inl rfl) rfl fun w' h => ⟨x, trivial, rfl, by rw [pt_no e]; rw [e] at h; exact h.sub (by repeat' constructor)⟩

theorem outU8_any (b : Nat) (x : Option Addr × Nat) (lim : Int) (bs : List Int) (wr : Bool) (xs : List Int) (xv : Value) (hlo : -9223372036854775808 ≤ lim ∧ lim ≤ 9223372036854775807) (hf : Fit lim (bs, wr)) (hsz : bs.length + xs.length ≤ 140737488355328) (w : World)
    (hx : RdS w (fpL (oR b x lim bs wr)) xv 1 xs.length (ints .u8 xs)) (hw : OK w (fpL (oR b x lim bs wr)) (oR b x lim bs wr) w) :
    Fn Tryz.prog 49 [.pointer (some ⟨b, 0, none⟩), xv] (oR b x lim bs wr) w (fun _ : Option Addr × Nat => True) (fun _ => .tuple #[]) (fun y => oR b y lim (pt lim (bs, wr) xs).1 (pt lim (bs, wr) xs).2) := by
  refine enterF Tryz.func49 rfl Tryz.ntmps49 rfl hw ?_
  refine WC.region ?_
  refine WL.y (Yl.move rfl) rfl ?_
  refine WL.y (Yl.move rfl) rfl ?_
  refine WL.callC (xs := [.tmp 4, .tmp 5]) (cap := []) rfl rfl en77 (by repeat' constructor) (fun w hw => put_any b x lim bs wr xs xv hlo hf hsz w (hw.srcS hx) hw.left.here) rfl ?_
  intro y _
  refine WL.nil ?_
  repeat (with_reducible (first | refine peelT ?_ | refine peelB ?_ | refine peelTX ?_ | refine peelBX ?_ | refine peelBN ?_ | refine peelBO rfl ?_))
  exact ret0 (.inl rfl) rfl fun w' h => ⟨y, trivial, rfl, h.sub (by repeat' constructor)⟩

def b8 (l : List Int) : List (List Int) := l.map (be · 8)

theorem outFixed_any (b : Nat) (x : Option Addr × Nat) (lim : Int) (bs : List Int) (wr : Bool) (l : List (List Int)) (vs : List Value) (lv : Value) (hvl : vs.length = l.length) (hlo : -9223372036854775808 ≤ lim ∧ lim ≤ 9223372036854775807) (hf : Fit lim (bs, wr)) (hsz : bs.length + total l ≤ 140737488355328) (w : World)
    (hx : RdS w (fpL (oR b x lim bs wr)) lv 1 l.length vs) (hxs : ∀ (i : Nat) (v : Value) (c : List Int), vs[i]? = some v → l[i]? = some c → RdS w (fpL (oR b x lim bs wr)) v 1 c.length (ints .u8 c)) (hw : OK w (fpL (oR b x lim bs wr)) (oR b x lim bs wr) w) :
    Fn Tryz.prog 79 [.pointer (some ⟨b, 0, none⟩), lv] (oR b x lim bs wr) w (fun _ : Option Addr × Nat => True) (fun _ => .tuple #[]) (fun y => oR b y lim (pts lim (bs, wr) l).1 (pts lim (bs, wr) l).2) := by
  obtain ⟨al, cl, rfl, hcl, hml⟩ := hx.rd.form
  unfold maxLen at hml
  refine enterF Tryz.func79 rfl Tryz.ntmps79 rfl hw ?_
  refine WC.seq ?_
  refine WC.region ?_
  refine WL.y (Yl.move rfl) rfl ?_
  refine WL.y (Yl.len un150 rfl) rfl ?_
  refine WL.y (Yl.move rfl) rfl ?_
  refine WL.nil ?_
  refine WC.block ?_
  refine WC.loop (α := Nat × (Option Addr × Nat)) (fun p => [(0, .pointer (some ⟨b, 0, none⟩)), (6, .slice al l.length cl), (7, .int .i64 (l.length : Int)), (8, .int .i64 (p.1 : Int))]) (fun p => oR b p.2 lim (pts lim (bs, wr) (l.take p.1)).1 (pts lim (bs, wr) (l.take p.1)).2) (fun p => p.1 ≤ l.length) (fun p => l.length - p.1) (0, x) (Nat.zero_le _) ⟨(by repeat' constructor), _, (by repeat' constructor)⟩ ?_
  rintro ⟨j, y⟩ hj
  dsimp only at hj ⊢
  refine WC.seq ?_
  refine WC.region ?_
  refine WL.y (Yl.lss rfl rfl) rfl ?_
  refine WL.nil ?_
  refine WC.seq ?_
  refine WC.condD rfl (fun g9 => ?_) (fun g9 => ?_)
  · refine WC.skip ?_
    refine WC.seq ?_
    refine WC.block ?_
    refine WC.seq ?_
    refine WC.region ?_
    have hjl : j < l.length := by omega
    obtain ⟨c, hb⟩ : ∃ c, l[j]? = some c := ⟨_, List.getElem?_eq_getElem hjl⟩
    obtain ⟨v, hv⟩ : ∃ v, vs[j]? = some v := ⟨_, List.getElem?_eq_getElem (by omega)⟩
    have hvc := hxs j v c hv hb
    have hq := total_take hb
    have hq2 := pts_len (lim := lim) (l.take j) (bs, wr)
    dsimp only at hq2
    have hq3 := pts_fit (l.take j) hf
    have hq4 : pts lim (bs, wr) (l.take (j + 1)) = pt lim (pts lim (bs, wr) (l.take j)) c := by rw [← take_snoc _ _ _ hb, pts_snoc]
    generalize pts lim (bs, wr) (l.take j) = s at hq2 hq3 hq4 ⊢
    obtain ⟨sb, sw⟩ := s
    dsimp only at hq2 ⊢
    refine WL.y (Yl.index un150 sz54 rfl rfl (Reads.s hx) rfl (by omega)) rfl ?_
    refine WL.y (Yl.loadE on54 rfl (Reads.s hx) hv) rfl ?_
    refine WL.y (Yl.assign rfl) rfl ?_
    refine WL.nil ?_
    refine WC.region ?_
    refine WL.y (Yl.move rfl) rfl ?_
    refine WL.y (Yl.move rfl) rfl ?_
    refine WL.callC (xs := [.tmp 12, .tmp 13]) (cap := []) rfl rfl en77 (by repeat' constructor) (fun w hw => put_any b y lim sb sw c v hlo hq3 (by omega) w (hw.srcS hvc) hw.left.here) rfl ?_
    intro y2 _
    refine WL.nil ?_
    refine WC.region ?_
    refine WL.y (Yl.add rfl rfl (IntWalk.i64_in _ (by omega))) rfl ?_
    refine WL.y (Yl.move rfl) rfl ?_
    refine WL.nil ?_
    refine ⟨rfl, (j + 1, y2), by dsimp only; omega, by dsimp only; omega, (by repeat' constructor), _, (by dsimp only; rw [hq4]; exact (by repeat' constructor))⟩
  · refine WC.exit ?_
    repeat (with_reducible (first | refine peelT ?_ | refine peelB ?_ | refine peelTX ?_ | refine peelBX ?_ | refine peelBN ?_ | refine peelBO rfl ?_))
    have hj2 : j = l.length := by omega
    exact ret0 (.inl rfl) rfl fun w' h => ⟨y, trivial, rfl, by rw [hj2, List.take_length] at h; exact h.sub (by repeat' constructor)⟩

theorem outBytes_ok (b : Nat) (x : Option Addr × Nat) (lim : Int) (bs : List Int) (hl0 : 0 ≤ lim) (hsz : bs.length ≤ 140737488355328) (w : World) (hw : OK w (fpL (oR b x lim bs false)) (oR b x lim bs false) w) :
    Fn Tryz.prog 56 [.pointer (some ⟨b, 0, none⟩)] (oR b x lim bs false) w (fun y : Option Addr × Nat => bs.length ≤ y.2) (fun y => .tuple #[.slice y.1 bs.length y.2, .int .i64 0]) (fun y => ownR (.slice y.1 bs.length y.2) 5 1 bs.length (ints .u8 bs) :: oR b x lim bs false) := by
  refine enterF Tryz.func56 rfl Tryz.ntmps56 rfl hw ?_
  refine WC.seq ?_
  refine WC.region ?_
  refine WL.y (Yl.assign rfl) rfl ?_
  refine WL.y (Yl.assign rfl) rfl ?_
  refine WL.nil ?_
  refine WC.seq ?_
  refine WC.block ?_
  refine WC.seq ?_
  refine WC.region ?_
  refine WL.y (Yl.move rfl) rfl ?_
  refine WL.y (Yl.nilEq un102 rfl rfl) rfl ?_
  refine WL.y (Yl.assign rfl) rfl ?_
  refine WL.nil ?_
  refine WC.condF rfl (by first | rfl | (simp; done) | (simp; omega)) ?_
  refine WC.seq ?_
  refine WC.region ?_
  refine WL.y (Yl.move rfl) rfl ?_
  refine WL.y (Yl.nilCheck rfl) rfl ?_
  refine WL.y (Yl.field fo141_2 rfl) rfl ?_
  refine WL.y (Yl.load on4 rfl (by repeat constructor) (by rfl)) rfl ?_
  refine WL.know (t := 11) (b' := false) rfl (by first | rfl | (simp; done) | (simp; omega)) ?_
  refine WL.y (Yl.move rfl) rfl ?_
  refine WL.on rfl rfl ?_
  refine WL.y (Yl.move rfl) rfl ?_
  refine WL.on rfl rfl ?_
  refine WL.y (Yl.nilCheck rfl) rfl ?_
  refine WL.on rfl rfl ?_
  refine WL.y (Yl.field fo141_1 rfl) rfl ?_
  refine WL.on rfl rfl ?_
  refine WL.y (Yl.load on3 rfl (by repeat constructor) (by rfl)) rfl ?_
  refine WL.on rfl rfl ?_
  refine WL.y (Yl.lss rfl rfl) rfl ?_
  refine WL.know (t := 17) (b' := false) rfl (by first | rfl | (simp; done) | (simp; omega)) ?_
  refine WL.y (Yl.pickF rfl rfl) rfl ?_
  refine WL.y (Yl.assign rfl) rfl ?_
  refine WL.nil ?_
  refine WC.condF rfl (by first | rfl | (simp; done) | (simp; omega)) ?_
  refine WC.skip ?_
  refine WC.seq ?_
  refine WC.region ?_
  refine WL.to (To.buildSlice (vs := []) un54 zs5 rfl rfl (by simp [Value.cells]) (by decide) (by decide)) rfl ?_
  intro b19
  refine WL.view (fun w h => h.blkOwn (b := b19) (size := 1) (n := 0) (by repeat constructor) (by unfold maxLen; omega) rfl) ?_
  refine WL.y (Yl.move rfl) rfl ?_
  refine WL.y (Yl.nilCheck rfl) rfl ?_
  refine WL.y (Yl.field fo141_0 rfl) rfl ?_
  refine WL.y (Yl.load on54 rfl (by repeat constructor) (by rfl)) rfl ?_
  refine WL.to (To.append sl54 rfl rfl (by repeat constructor) (Reads.own (by repeat constructor)) (ints_one _ _) (Nat.zero_add _) (by rfl) (by unfold maxLen; omega) (by omega)) rfl ?_
  rintro ⟨⟨ao24, c24⟩, hc24⟩
  dsimp only at hc24 ⊢
  refine WL.y (Yl.assign rfl) rfl ?_
  refine WL.y (Yl.assign rfl) rfl ?_
  refine WL.nil ?_
  refine WC.ret ?_
  repeat (with_reducible (first | refine peelT ?_ | refine peelB ?_ | refine peelTX ?_ | refine peelBX ?_ | refine peelBN ?_ | refine peelBO rfl ?_))
  exact ret2 (.inr rfl) Tryz.results56 rfl rfl fun w' h => ⟨(ao24, c24), hc24, rfl, h.sub (by repeat' constructor)⟩

end Go.Proofs.YtcplbkbimpiioaaGreatDoor

namespace Go.Proofs.YtcplbkbimpiioaaGreatDoor
open Go Go.RowKit
theorem number16_any (n : Int) (many : Nat) (hn : 0 ≤ n ∧ n < 65536) (hm : many ≤ 8) (w : World) (hw : OK w (fpL []) [] w) :
    Fn Tryz.prog 100 [.int .u16 n, .int .i64 (many : Int)] [] w (fun _ : Option Addr × Nat => True) (fun y => .slice y.1 many y.2) (fun y => [ownR (.slice y.1 many y.2) 5 1 many (ints .u8 (be n many))]) := by
  refine enterF Tryz.func100 rfl Tryz.ntmps100 rfl hw ?_
  refine WC.seq ?_
  refine WC.region ?_
  refine WL.y (Yl.assign rfl) rfl ?_
  refine WL.nil ?_
  refine WC.seq ?_
  refine WC.region ?_
  refine WL.y (Yl.assign rfl) rfl ?_
  refine WL.nil ?_
  refine WC.seq ?_
  refine WC.seq ?_
  refine WC.region ?_
  refine WL.y (Yl.move rfl) rfl ?_
  refine WL.y (Yl.sub rfl rfl (IntWalk.i64_in _ (by omega))) rfl ?_
  refine WL.say (t := 8) (v' := .int .i64 ((many : Int) - 1 - ((0 : Nat) : Int))) rfl (by (refine congrArg _ ?_; omega)) ?_
  refine WL.y (Yl.assign rfl) rfl ?_
  refine WL.nil ?_
  refine WC.block ?_
  refine WC.view (fun w h => h.addNil 5 1) ?_
  refine WC.loop (α := Nat × (Option Addr × Nat)) (fun p => [(0, .int .u16 n), (5, .slice p.2.1 p.1 p.2.2), (6, .int .i64 ((many : Int) - 1 - (p.1 : Int)))]) (fun p => [ownR (.slice p.2.1 p.1 p.2.2) 5 1 p.1 (ints .u8 (beK n many p.1))]) (fun p => p.1 ≤ many) (fun p => many - p.1) (0, none, 0) (Nat.zero_le _) ⟨(by repeat' constructor), _, (by repeat' constructor)⟩ ?_
  rintro ⟨k, ao, c⟩ hk
  dsimp only at hk ⊢
  have hp : (0 : Int) ≤ 2 ^ (8 * (many - 1 - k)) := Int.pow_nonneg (by decide)
  refine WC.seq ?_
  refine WC.seq ?_
  refine WC.region ?_
  refine WL.y (Yl.move rfl) rfl ?_
  refine WL.y (Yl.geq rfl rfl) rfl ?_
  refine WL.nil ?_
  refine WC.condD rfl (fun g10 => ?_) (fun g10 => ?_)
  · refine WC.skip ?_
    refine WC.seq ?_
    refine WC.block ?_
    refine WC.region ?_
    refine WL.y (Yl.move rfl) rfl ?_
    refine WL.y (Yl.move rfl) rfl ?_
    refine WL.y (Yl.conv un162 un122 rfl (u64_in _ (by omega))) rfl ?_
    refine WL.y (Yl.move rfl) rfl ?_
    refine WL.y (Yl.mul rfl rfl (IntWalk.i64_in _ (by omega))) rfl ?_
    refine WL.y (Yl.shr rfl rfl ⟨by omega, (by simp [IntKind.bits]; try omega)⟩ rfl) rfl ?_
    refine WL.y (Yl.conv un122 un5 rfl (be_byte n many k (by omega) hm)) rfl ?_
    refine WL.to (To.buildSlice (vs := [.int .u8 (n / 2 ^ (8 * (many - 1 - k)) % 256)]) un54 zs5 rfl rfl (by simp [Value.cells]) (by decide) (by decide)) rfl ?_
    intro b20
    refine WL.to (To.append sl54 rfl rfl (by repeat constructor) (Reads.of (RdOf.blk (cs := [.int .u8 (n / 2 ^ (8 * (many - 1 - k)) % 256)]) (cs' := ints .u8 [n / 2 ^ (8 * (many - 1 - k)) % 256]) (Nat.le_refl _) (by unfold maxLen; omega) (by simp) rfl) (by repeat constructor)) (ints_one _ _) rfl (by rw [ints_append, ← beK_succ]) (by unfold maxLen; omega) (by omega)) rfl ?_
    rintro ⟨⟨ao21, c21⟩, hc21⟩
    dsimp only at hc21 ⊢
    refine WL.y (Yl.assign rfl) rfl ?_
    refine WL.nil ?_
    refine WC.region ?_
    refine WL.y (Yl.move rfl) rfl ?_
    refine WL.y (Yl.sub rfl rfl (IntWalk.i64_in _ (by omega))) rfl ?_
    refine WL.say (t := 12) (v' := .int .i64 ((many : Int) - 1 - ((k + 1 : Nat) : Int))) rfl (by (refine congrArg _ ?_; omega)) ?_
    refine WL.y (Yl.assign rfl) rfl ?_
    refine WL.nil ?_
    exact ⟨rfl, (k + 1, ao21, c21), by dsimp only; omega, by dsimp only; omega, (by repeat' constructor), _, (by repeat' constructor)⟩
  · refine WC.exit ?_
    refine WC.seq ?_
    refine WC.region ?_
    refine WL.y (Yl.move rfl) rfl ?_
    refine WL.y (Yl.assign rfl) rfl ?_
    refine WL.nil ?_
    refine WC.ret ?_
    repeat (with_reducible (first | refine peelT ?_ | refine peelB ?_ | refine peelTX ?_ | refine peelBX ?_ | refine peelBN ?_ | refine peelBO rfl ?_))
    have hkm : k = many := by omega
    subst hkm
    exact ret1 (.inr rfl) Tryz.results100 rfl fun w' h => ⟨(ao, c), trivial, rfl, h.sub (by repeat' constructor)⟩

def b4 (l : List Int) : List (List Int) := l.map (be · 4)

/-- How many there are, put. -/
def mny (lim : Int) (s : List Int × Bool) (most : Int) (n : Nat) : List Int × Bool := pt lim (s.1, s.2 || decide ((if (65535 : Int) < most then 65535 else most) < (n : Int))) (be (IntKind.u16.wrap (n : Int)) 2)
theorem u16_rng (n : Int) : 0 ≤ IntKind.u16.wrap n ∧ IntKind.u16.wrap n < 65536 := by
  have e : IntKind.u16.wrap n = n % 65536 := by simp [IntKind.wrap, IntKind.bits, IntKind.signed]
  omega

theorem outMany_any (b : Nat) (x : Option Addr × Nat) (lim : Int) (bs : List Int) (wr : Bool) (most : Int) (n : Nat) (hlo : -9223372036854775808 ≤ lim ∧ lim ≤ 9223372036854775807) (hf : Fit lim (bs, wr)) (hsz : bs.length + 2 ≤ 140737488355328) (w : World)
    (hw : OK w (fpL (oR b x lim bs wr)) (oR b x lim bs wr) w) :
    Fn Tryz.prog 78 [.pointer (some ⟨b, 0, none⟩), .int .i64 most, .int .i64 (n : Int)] (oR b x lim bs wr) w (fun _ : Option Addr × Nat => True) (fun _ => .bool (!(mny lim (bs, wr) most n).2)) (fun y => oR b y lim (mny lim (bs, wr) most n).1 (mny lim (bs, wr) most n).2) := by
  refine enterF Tryz.func78 rfl Tryz.ntmps78 rfl hw ?_
  refine WC.seq ?_
  refine WC.region ?_
  refine WL.y (Yl.assign rfl) rfl ?_
  refine WL.nil ?_
  refine WC.seq ?_
  refine WC.seq ?_
  refine WC.region ?_
  refine WL.y (Yl.move rfl) rfl ?_
  refine WL.y (Yl.nilEq un102 rfl rfl) rfl ?_
  refine WL.know (t := 8) (b' := false) rfl (by first | rfl | (simp; done) | (simp; omega)) ?_
  refine WL.nil ?_
  refine WC.condF rfl (by first | rfl | (simp; done) | (simp; omega)) ?_
  refine WC.skip ?_
  refine WC.midK [] (oR b x lim bs (wr || decide ((if (65535 : Int) < most then 65535 else most) < (n : Int)))) ?_ ?_
  · refine WC.region ?_
    refine WL.y (Yl.move rfl) rfl ?_
    refine WL.y (Yl.move rfl) rfl ?_
    refine WL.y (Yl.nilCheck rfl) rfl ?_
    refine WL.y (Yl.field fo141_2 rfl) rfl ?_
    refine WL.y (Yl.load on4 rfl (by repeat constructor) (by rfl)) rfl ?_
    refine WL.y (Yl.move rfl) rfl ?_
    refine WL.both (t := 14) rfl (fun g14 => ?_) (fun g14 => ?_)
    · refine WL.off rfl rfl rfl rfl ?_
      refine WL.off rfl rfl rfl rfl ?_
      refine WL.off rfl rfl rfl rfl ?_
      refine WL.off rfl rfl rfl rfl ?_
      refine WL.y (Yl.pickT rfl rfl) rfl ?_
      refine WL.say (t := 19) (v' := .bool (wr || decide ((if (65535 : Int) < most then 65535 else most) < (n : Int)))) rfl (by first | (rw [g14]; rfl) | (rw [g14, Bool.false_or])) ?_
      refine WL.y (Yl.nilCheck rfl) rfl ?_
      refine WL.y (Yl.field fo141_2 rfl) rfl ?_
      refine WL.sto (Sto.one sz4 rfl rfl (by repeat constructor) rfl (by rfl) (by rfl)) (fun _ h => nomatch h) ?_
      refine WL.nil ?_
      exact ⟨rfl, (by repeat' constructor), (by repeat' constructor), _, (by repeat' constructor)⟩
    · refine WL.on rfl rfl ?_
      refine WL.y (Yl.move rfl) rfl ?_
      refine WL.on rfl rfl ?_
      refine WL.y (Yl.move rfl) rfl ?_
      refine WL.on rfl rfl ?_
      refine WL.y (Yl.min2 rfl rfl) rfl ?_
      refine WL.on rfl rfl ?_
      refine WL.y (Yl.gtr rfl rfl) rfl ?_
      refine WL.y (Yl.pickF rfl rfl) rfl ?_
      refine WL.say (t := 19) (v' := .bool (wr || decide ((if (65535 : Int) < most then 65535 else most) < (n : Int)))) rfl (by first | (rw [g14]; rfl) | (rw [g14, Bool.false_or])) ?_
      refine WL.y (Yl.nilCheck rfl) rfl ?_
      refine WL.y (Yl.field fo141_2 rfl) rfl ?_
      refine WL.sto (Sto.one sz4 rfl rfl (by repeat constructor) rfl (by rfl) (by rfl)) (fun _ h => nomatch h) ?_
      refine WL.nil ?_
      exact ⟨rfl, (by repeat' constructor), (by repeat' constructor), _, (by repeat' constructor)⟩
  · refine WC.seq ?_
    refine WC.region ?_
    refine WL.y (Yl.move rfl) rfl ?_
    refine WL.y (Yl.move rfl) rfl ?_
    refine WL.y (Yl.conv un3 un162 rfl rfl) rfl ?_
    refine WL.callC (xs := [.tmp 24, _]) (cap := []) rfl rfl en100 (by repeat' constructor) (fun w hw => number16_any _ 2 (u16_rng _) (by omega) w hw.left.here) rfl ?_
    intro z _
    refine WL.callC (xs := [.tmp 22, .tmp 25]) (cap := []) rfl rfl en77 (by repeat' constructor) (fun w hw => put_any b x lim bs (wr || decide ((if (65535 : Int) < most then 65535 else most) < (n : Int))) (be (IntKind.u16.wrap (n : Int)) 2) (.slice z.1 2 z.2) hlo hf (by rw [be_len]; omega) w (hw.src RdOf.own (by repeat constructor)) hw.left.here) rfl ?_
    intro y2 _
    refine WL.nil ?_
    refine WC.seq ?_
    refine WC.region ?_
    refine WL.y (Yl.move rfl) rfl ?_
    refine WL.y (Yl.nilCheck rfl) rfl ?_
    refine WL.y (Yl.field fo141_2 rfl) rfl ?_
    refine WL.y (Yl.load on4 rfl (by repeat constructor) (by rfl)) rfl ?_
    refine WL.y (Yl.not rfl) rfl ?_
    refine WL.y (Yl.assign rfl) rfl ?_
    refine WL.nil ?_
    refine WC.ret ?_
    repeat (with_reducible (first | refine peelT ?_ | refine peelB ?_ | refine peelTX ?_ | refine peelBX ?_ | refine peelBN ?_ | refine peelBO rfl ?_))
    exact ret1 (.inr rfl) Tryz.results78 rfl fun w' h => ⟨y2, trivial, rfl, h.sub (by repeat' constructor)⟩

/-- How many there are, taken: whether it is wrong then. -/
def mnW (bs : List Int) (wr : Bool) (most : Int) : Bool := tkW 2 bs wr || decide (most < val (tkR 2 bs wr))
theorem val2 {bs : List Int} (h : Bytes bs) (wr : Bool) : 0 ≤ val (tkR 2 bs wr) ∧ val (tkR 2 bs wr) < 65536 := by
  have hv := val_range (h.tkR 2 wr)
  have hT := tkR_len 2 bs wr
  have : (tkR 2 bs wr).length = 0 ∨ (tkR 2 bs wr).length = 1 ∨ (tkR 2 bs wr).length = 2 := by omega
  rcases this with h | h | h <;> rw [h] at hv <;> simp at hv <;> omega

theorem inMany_any (b : Nat) (ao : Option Addr) (cap : Nat) (bs : List Int) (wr : Bool) (most : Int) (r : Res) (hr : RdOf r (.slice ao bs.length cap) 1 bs.length (ints .u8 bs)) (hc : bs.length ≤ cap) (hB : Bytes bs) (w : World) (hw : OK w (fpL [inR b (.slice ao bs.length cap) wr, r]) [inR b (.slice ao bs.length cap) wr, r] w) :
    Fn Tryz.prog 75 [.pointer (some ⟨b, 0, none⟩), .int .i64 most] [inR b (.slice ao bs.length cap) wr, r] w (NxΦ r 2 bs wr) (fun _ => .int .i64 (if mnW bs wr most then -1 else val (tkR 2 bs wr))) (fun x => [inR b (.slice x.1 (tkB 2 bs wr).length x.2) (mnW bs wr most), r]) := by
  have hv := val2 hB wr
  refine enterF Tryz.func75 rfl Tryz.ntmps75 rfl hw ?_
  refine WC.seq ?_
  refine WC.region ?_
  refine WL.y (Yl.assign rfl) rfl ?_
  refine WL.nil ?_
  refine WC.seq ?_
  refine WC.region ?_
  refine WL.y (Yl.move rfl) rfl ?_
  refine WL.callC (xs := [.tmp 6, _]) (cap := []) rfl rfl en74 (by repeat' constructor) (fun w hw => next_any b ao cap 2 bs wr r hr hc hB (by omega) w hw.left.here) rfl ?_
  intro x hx
  refine WL.y (Yl.conv un122 un3 rfl (IntWalk.i64_in _ (by omega))) rfl ?_
  refine WL.y (Yl.assign rfl) rfl ?_
  refine WL.nil ?_
  refine WC.seq ?_
  refine WC.seq ?_
  refine WC.region ?_
  refine WL.y (Yl.move rfl) rfl ?_
  refine WL.y (Yl.nilNe un85 rfl rfl) rfl ?_
  refine WL.know (t := 10) (b' := true) rfl (by first | rfl | (simp; done) | (simp; omega)) ?_
  refine WL.y (Yl.move rfl) rfl ?_
  refine WL.on rfl rfl ?_
  refine WL.y (Yl.move rfl) rfl ?_
  refine WL.on rfl rfl ?_
  refine WL.y (Yl.move rfl) rfl ?_
  refine WL.on rfl rfl ?_
  refine WL.y (Yl.gtr rfl rfl) rfl ?_
  refine WL.y (Yl.pickT rfl rfl) rfl ?_
  refine WL.nil ?_
  refine WC.condD rfl (fun g15 => ?_) (fun g15 => ?_)
  · refine WC.region ?_
    refine WL.y (Yl.move rfl) rfl ?_
    refine WL.y (Yl.nilCheck rfl) rfl ?_
    refine WL.y (Yl.field fo136_1 rfl) rfl ?_
    refine WL.sto (Sto.one sz4 rfl rfl (by repeat constructor) rfl (by rfl) (by rfl)) (fun _ h => nomatch h) ?_
    refine WL.nil ?_
    refine WC.seq ?_
    refine WC.seq ?_
    refine WC.region ?_
    refine WL.y (Yl.move rfl) rfl ?_
    refine WL.y (Yl.nilEq un85 rfl rfl) rfl ?_
    refine WL.know (t := 20) (b' := false) rfl (by first | rfl | (simp; done) | (simp; omega)) ?_
    refine WL.y (Yl.move rfl) rfl ?_
    refine WL.on rfl rfl ?_
    refine WL.y (Yl.move rfl) rfl ?_
    refine WL.on rfl rfl ?_
    refine WL.y (Yl.nilCheck rfl) rfl ?_
    refine WL.on rfl rfl ?_
    refine WL.y (Yl.field fo136_1 rfl) rfl ?_
    refine WL.on rfl rfl ?_
    refine WL.y (Yl.load on4 rfl (by repeat constructor) (by rfl)) rfl ?_
    refine WL.say (t := 25) (v' := .bool (mnW bs wr most)) rfl (by (show Value.bool true = _; unfold mnW; rw [decide_eq_true g15, Bool.or_true])) ?_
    refine WL.y (Yl.pickF rfl rfl) rfl ?_
    refine WL.nil ?_
    refine WC.cond rfl (fun g26 => ?_) (fun g26 => ?_)
    · refine WC.seq ?_
      refine WC.region ?_
      refine WL.y (Yl.assign rfl) rfl ?_
      refine WL.nil ?_
      refine WC.ret ?_
      repeat (with_reducible (first | refine peelT ?_ | refine peelB ?_ | refine peelTX ?_ | refine peelBX ?_ | refine peelBN ?_ | refine peelBO rfl ?_))
      rw [g26, if_pos rfl]
      exact ret1 (.inr rfl) Tryz.results75 rfl fun w' h => ⟨x, hx, rfl, h.sub (by repeat' constructor)⟩
    · refine WC.skip ?_
      refine WC.seq ?_
      refine WC.region ?_
      refine WL.y (Yl.move rfl) rfl ?_
      refine WL.y (Yl.assign rfl) rfl ?_
      refine WL.nil ?_
      refine WC.ret ?_
      repeat (with_reducible (first | refine peelT ?_ | refine peelB ?_ | refine peelTX ?_ | refine peelBX ?_ | refine peelBN ?_ | refine peelBO rfl ?_))
      exact absurd g26 (by unfold mnW; rw [decide_eq_true g15]; simp)
  · refine WC.skip ?_
    refine WC.seq ?_
    refine WC.seq ?_
    refine WC.region ?_
    refine WL.y (Yl.move rfl) rfl ?_
    refine WL.y (Yl.nilEq un85 rfl rfl) rfl ?_
    refine WL.know (t := 20) (b' := false) rfl (by first | rfl | (simp; done) | (simp; omega)) ?_
    refine WL.y (Yl.move rfl) rfl ?_
    refine WL.on rfl rfl ?_
    refine WL.y (Yl.move rfl) rfl ?_
    refine WL.on rfl rfl ?_
    refine WL.y (Yl.nilCheck rfl) rfl ?_
    refine WL.on rfl rfl ?_
    refine WL.y (Yl.field fo136_1 rfl) rfl ?_
    refine WL.on rfl rfl ?_
    refine WL.y (Yl.load on4 rfl (by repeat constructor) (by rfl)) rfl ?_
    refine WL.say (t := 25) (v' := .bool (mnW bs wr most)) rfl (by (unfold mnW; rw [decide_eq_false g15, Bool.or_false])) ?_
    refine WL.y (Yl.pickF rfl rfl) rfl ?_
    refine WL.nil ?_
    refine WC.cond rfl (fun g26 => ?_) (fun g26 => ?_)
    · refine WC.seq ?_
      refine WC.region ?_
      refine WL.y (Yl.assign rfl) rfl ?_
      refine WL.nil ?_
      refine WC.ret ?_
      repeat (with_reducible (first | refine peelT ?_ | refine peelB ?_ | refine peelTX ?_ | refine peelBX ?_ | refine peelBN ?_ | refine peelBO rfl ?_))
      have e : mnW bs wr most = tkW 2 bs wr := by unfold mnW; rw [decide_eq_false g15, Bool.or_false]
      rw [e] at g26 ⊢
      rw [if_pos g26]
      exact ret1 (.inr rfl) Tryz.results75 rfl fun w' h => ⟨x, hx, rfl, h.sub (by repeat' constructor)⟩
    · refine WC.skip ?_
      refine WC.seq ?_
      refine WC.region ?_
      refine WL.y (Yl.move rfl) rfl ?_
      refine WL.y (Yl.assign rfl) rfl ?_
      refine WL.nil ?_
      refine WC.ret ?_
      repeat (with_reducible (first | refine peelT ?_ | refine peelB ?_ | refine peelTX ?_ | refine peelBX ?_ | refine peelBN ?_ | refine peelBO rfl ?_))
      have e : mnW bs wr most = tkW 2 bs wr := by unfold mnW; rw [decide_eq_false g15, Bool.or_false]
      rw [e] at g26 ⊢
      rw [if_neg (by rw [g26]; simp)]
      exact ret1 (.inr rfl) Tryz.results75 rfl fun w' h => ⟨x, hx, rfl, h.sub (by repeat' constructor)⟩

theorem tkB_true (k : Nat) (bs : List Int) : tkB k bs true = bs := by simp [tkB, tkOk]
theorem tkW_true (k : Nat) (bs : List Int) : tkW k bs true = true := by simp [tkW, tkOk]
end Go.Proofs.YtcplbkbimpiioaaGreatDoor
