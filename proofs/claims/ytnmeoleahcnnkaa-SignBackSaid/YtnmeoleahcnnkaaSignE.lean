/- Signals: what a kind takes. -/
import Derived.Test.YtnmeoleahcnnkaaSignD
namespace Go.Proofs.Ytnmeoleahcnnkaa
open Go Go.RowKit
set_option linter.unusedSectionVars false

/-- What a kind takes: the signal, what is left, whether it is wrong. -/
def tkS (k : Int) (s : Sg) (B : List Int) (W : Bool) : Sg × List Int × Bool :=
  if k = 1 then
    let B1 := tkB 1 B W; let W1 := tkW 1 B W; let B2 := tkB 1 B1 W1; let W2 := tkW 1 B1 W1; let B3 := tkB 1 B2 W2; let W3 := tkW 1 B2 W2
    ({ s with ca := val (tkR 1 B W), cd := val (tkR 1 B1 W1), ce := val (tkR 1 B2 W2), key := over (tkR 32 B3 W3) s.key }, tkB 32 B3 W3, tkW 32 B3 W3)
  else if k = 2 then ({ s with key := over (tkR 32 B W) s.key }, tkB 32 B W, tkW 32 B W)
  else if k = 3 then
    let B1 := tkB 4 B W; let W1 := tkW 4 B W
    ({ s with n := val (tkR 4 B W), data := tkR (szK B1 W1) (tkB 2 B1 W1) (mnW B1 W1 1024) }, tkB (szK B1 W1) (tkB 2 B1 W1) (mnW B1 W1 1024), tkW (szK B1 W1) (tkB 2 B1 W1) (mnW B1 W1 1024))
  else if k = 5 then ({ s with rs := val (tkR 1 B W) }, tkB 1 B W, tkW 1 B W)
  else (s, B, W)
abbrev TsΦ (r : Res) (st : Sg × List Int × Bool) (x : (Option Addr × Nat) × Option Addr × Nat) : Prop :=
  RdOf r (.slice x.1.1 st.2.1.length x.1.2) 1 st.2.1.length (ints .u8 st.2.1) ∧ st.2.1.length ≤ x.1.2 ∧ RdOf r (.slice x.2.1 st.1.data.length x.2.2) 1 st.1.data.length (ints .u8 st.1.data)
abbrev TsB (b bS : Nat) (r : Res) (st : Sg × List Int × Bool) (x : (Option Addr × Nat) × Option Addr × Nat) : List Res :=
  [inR b (.slice x.1.1 st.2.1.length x.1.2) st.2.2, r, blkR bS 34 ({ st.1 with da := x.2.1, dc := x.2.2 } : Sg).cells]

section
variable (s : Sg) (hs : s.ok) (b bS : Nat) (ao : Option Addr) (cap : Nat) (B : List Int) (W : Bool) (r : Res) (hr : RdOf r (.slice ao B.length cap) 1 B.length (ints .u8 B)) (hc : B.length ≤ cap) (hB : Bytes B)
  (hda : RdOf r (.slice s.da s.data.length s.dc) 1 s.data.length (ints .u8 s.data)) (w : World) (hw : OK w (fpL [inR b (.slice ao B.length cap) W, r, blkR bS 34 s.cells]) [inR b (.slice ao B.length cap) W, r, blkR bS 34 s.cells] w)
include hs hr hc hB hda hw

theorem take1_any : Fn Try.prog 32 [.pointer (some ⟨b, 0, none⟩), .pointer (some ⟨bS, 0, none⟩)] [inR b (.slice ao B.length cap) W, r, blkR bS 34 s.cells] w (TsΦ r (tkS 1 s B W)) (fun _ => .tuple #[]) (TsB b bS r (tkS 1 s B W)) := by
  have h16 := hs.il
  have h32 := hs.kl
  rw [show tkS 1 s B W = _ from if_pos rfl]
  dsimp only
  obtain ⟨p, hp⟩ : ∃ B', val (tkR 1 B W) = B' := ⟨_, rfl⟩
  obtain ⟨B1, hB1⟩ : ∃ B', tkB 1 B W = B' := ⟨_, rfl⟩
  obtain ⟨W1, hW1⟩ : ∃ B', tkW 1 B W = B' := ⟨_, rfl⟩
  rw [hp, hB1, hW1]
  obtain ⟨q, hq⟩ : ∃ B', val (tkR 1 B1 W1) = B' := ⟨_, rfl⟩
  obtain ⟨B2, hB2⟩ : ∃ B', tkB 1 B1 W1 = B' := ⟨_, rfl⟩
  obtain ⟨W2, hW2⟩ : ∃ B', tkW 1 B1 W1 = B' := ⟨_, rfl⟩
  rw [hq, hB2, hW2]
  obtain ⟨o, ho⟩ : ∃ B', val (tkR 1 B2 W2) = B' := ⟨_, rfl⟩
  obtain ⟨B3, hB3⟩ : ∃ B', tkB 1 B2 W2 = B' := ⟨_, rfl⟩
  obtain ⟨W3, hW3⟩ : ∃ B', tkW 1 B2 W2 = B' := ⟨_, rfl⟩
  rw [ho, hB3, hW3]
  obtain ⟨T4, hT4⟩ : ∃ B', tkR 32 B3 W3 = B' := ⟨_, rfl⟩
  obtain ⟨B4, hB4⟩ : ∃ B', tkB 32 B3 W3 = B' := ⟨_, rfl⟩
  obtain ⟨W4, hW4⟩ : ∃ B', tkW 32 B3 W3 = B' := ⟨_, rfl⟩
  rw [hT4, hB4, hW4]
  have hT4l : T4.length ≤ 32 := hT4 ▸ tkR_len 32 B3 W3
  have k1 : Bytes B1 := hB1 ▸ hB.tkB 1 W
  have k2 : Bytes B2 := hB2 ▸ k1.tkB 1 W1
  have k3 : Bytes B3 := hB3 ▸ k2.tkB 1 W2
  refine enterF Try.func32 rfl Try.ntmps32 rfl hw ?_
  refine WC.seq ?_
  refine WC.region ?_
  refine WL.y (Yl.move rfl) rfl ?_ -- t4
  refine WL.y (Yl.move rfl) rfl ?_ -- t5
  refine WL.y (Yl.move rfl) rfl ?_ -- t6
  refine WL.y (Yl.move rfl) rfl ?_ -- t7
  refine WL.callC (xs := [.tmp 7]) (cap := []) rfl rfl en21 (by repeat (first | exact TakeL.nil | (apply TakeL.cons; · repeat (first | exact Take1.head | apply Take1.tail)))) (fun w hw => inU8_any b ao cap B W r hr hc hB w hw.left.here) rfl ?_ -- t8 (*hailer/wire.In).U8
  rintro ⟨a1, c1⟩ ⟨r1, hc1⟩
  dsimp only at r1 hc1 ⊢
  rw [hB1] at r1 hc1
  rw [hp, hB1, hW1]
  refine WL.y (Yl.move rfl) rfl ?_ -- t9
  refine WL.callC (xs := [.tmp 9]) (cap := []) rfl rfl en21 (by repeat (first | exact TakeL.nil | (apply TakeL.cons; · repeat (first | exact Take1.head | apply Take1.tail)))) (fun w hw => inU8_any b a1 c1 B1 W1 r r1 hc1 k1 w hw.left.here) rfl ?_ -- t10 (*hailer/wire.In).U8
  rintro ⟨a2, c2⟩ ⟨r2, hc2⟩
  dsimp only at r2 hc2 ⊢
  rw [hB2] at r2 hc2
  rw [hq, hB2, hW2]
  refine WL.y (Yl.move rfl) rfl ?_ -- t11
  refine WL.callC (xs := [.tmp 11]) (cap := []) rfl rfl en21 (by repeat (first | exact TakeL.nil | (apply TakeL.cons; · repeat (first | exact Take1.head | apply Take1.tail)))) (fun w hw => inU8_any b a2 c2 B2 W2 r r2 hc2 k2 w hw.left.here) rfl ?_ -- t12 (*hailer/wire.In).U8
  rintro ⟨a3, c3⟩ ⟨r3, hc3⟩
  dsimp only at r3 hc3 ⊢
  rw [hB3] at r3 hc3
  rw [ho, hB3, hW3]
  refine WL.y (Yl.nilCheck rfl) rfl ?_ -- t13
  refine WL.y (Yl.field fo34_2 rfl) rfl ?_ -- t14
  refine WL.y (Yl.field fo29_0 rfl) rfl ?_ -- t15
  refine WL.sto (Sto.one sz5 rfl rfl (by repeat (first | exact Take1.head | apply Take1.tail)) rfl (fitLt (by rw [Sg.len hs]; omega)) (Sg.s17 h16 p)) (fun _ h => nomatch h) ?_
  refine WL.y (Yl.nilCheck rfl) rfl ?_ -- t16
  refine WL.y (Yl.field fo34_2 rfl) rfl ?_ -- t17
  refine WL.y (Yl.field fo29_1 rfl) rfl ?_ -- t18
  refine WL.sto (Sto.one sz5 rfl rfl (by repeat (first | exact Take1.head | apply Take1.tail)) rfl (fitLt (by rw [Sg.len2 h16 h32]; omega)) (Sg.s18 (s := { s with ca := p }) h16 q)) (fun _ h => nomatch h) ?_
  refine WL.y (Yl.nilCheck rfl) rfl ?_ -- t19
  refine WL.y (Yl.field fo34_3 rfl) rfl ?_ -- t20
  refine WL.sto (Sto.one sz5 rfl rfl (by repeat (first | exact Take1.head | apply Take1.tail)) rfl (fitLt (by rw [Sg.len2 h16 h32]; omega)) (Sg.s19 (s := { s with ca := p, cd := q }) h16 o)) (fun _ h => nomatch h) ?_
  refine WL.nil ?_
  refine WC.drawAny (Hs := []) mixed (by kernel_rfl) ⟨_, (by repeat (first | exact TakeL.nil | (apply TakeL.cons; · repeat (first | exact Take1.head | apply Take1.tail))))⟩ ?_
  refine WD.take 0 rfl (by kernel_rfl) (by kernel_rfl) (by kernel_rfl) rfl rfl (Yl.move rfl) rfl ?_ -- t21
  refine WD.take 1 rfl (by kernel_rfl) (by kernel_rfl) (by kernel_rfl) rfl rfl (Yl.nilCheck rfl) rfl ?_ -- t22
  refine WD.take 2 rfl (by kernel_rfl) (by kernel_rfl) (by kernel_rfl) rfl rfl (Yl.field fo34_4 rfl) rfl ?_ -- t23
  refine WD.take 3 rfl (by kernel_rfl) (by kernel_rfl) (by kernel_rfl) rfl rfl (Yl.sliceArr un31 sz5 (by decide) rfl) rfl ?_ -- t24
  refine WD.take 4 rfl (by kernel_rfl) (by kernel_rfl) (by kernel_rfl) rfl rfl (Yl.move rfl) rfl ?_ -- t25
  refine WD.one 5 (by kernel_rfl) ?_
  refine WO.callC (xs := [.tmp 25, _]) (cap := []) rfl .no rfl rfl en22 (by repeat (first | exact TakeL.nil | (apply TakeL.cons; · repeat (first | exact Take1.head | apply Take1.tail)))) (fun w hw => inFixed_any b a3 c3 32 B3 W3 r r3 hc3 w hw.left.here) rfl (fun _ => ⟨_, (by repeat (first | exact TakeL.nil | (apply TakeL.cons; · repeat (first | exact Take1.head | apply Take1.tail))))⟩) ?_ -- t26 (*hailer/wire.In).Fixed
  rintro ⟨⟨a4, c4⟩, z⟩ ⟨q1, q2, q3, q4⟩
  dsimp only at q1 q2 q3 q4 ⊢
  rw [hT4] at q1 q2
  rw [hB4] at q3 q4
  rw [hT4, hB4, hW4]
  refine WD.one 6 (by kernel_rfl) ?_
  refine WO.to rfl rfl .no (To.copy un22 sz5 rfl rfl (by repeat (first | exact Take1.head | apply Take1.tail)) (Reads.of q1 (by repeat (first | exact Take1.head | apply Take1.tail))) (ints_one _ _) (fitLe (by rw [Sg.len2 h16 h32]; omega)) (Sg.okey (s := { s with ca := p, cd := q, ce := o }) h16 h32 hT4l)) rfl (fun _ => ⟨_, (by repeat (first | exact TakeL.nil | (apply TakeL.cons; · repeat (first | exact Take1.head | apply Take1.tail))))⟩) ?_
  rintro ⟨⟩
  refine WD.done (by kernel_rfl) ?_
  repeat (first | (with_reducible refine peelT ?_) | (with_reducible refine peelB ?_) | (with_reducible refine peelTX ?_) | (with_reducible refine peelBX ?_) | (with_reducible refine peelBN ?_) | (with_reducible refine peelBO rfl ?_))
  exact ret0 (.inl rfl) Try.results32 fun w' h => ⟨(z, s.da, s.dc), ⟨q3, q4, hda⟩, rfl, h.sub (by repeat (first | exact TakeL.nil | (apply TakeL.cons; · repeat (first | exact Take1.head | apply Take1.tail))))⟩

theorem take2_any : Fn Try.prog 34 [.pointer (some ⟨b, 0, none⟩), .pointer (some ⟨bS, 0, none⟩)] [inR b (.slice ao B.length cap) W, r, blkR bS 34 s.cells] w (TsΦ r (tkS 2 s B W)) (fun _ => .tuple #[]) (TsB b bS r (tkS 2 s B W)) := by
  have h16 := hs.il
  have h32 := hs.kl
  rw [show tkS 2 s B W = _ from (if_neg (by decide)).trans (if_pos rfl)]
  obtain ⟨T4, hT4⟩ : ∃ B', tkR 32 B W = B' := ⟨_, rfl⟩
  obtain ⟨B4, hB4⟩ : ∃ B', tkB 32 B W = B' := ⟨_, rfl⟩
  obtain ⟨W4, hW4⟩ : ∃ B', tkW 32 B W = B' := ⟨_, rfl⟩
  rw [hT4, hB4, hW4]
  have hT4l : T4.length ≤ 32 := hT4 ▸ tkR_len 32 B W
  refine enterF Try.func34 rfl Try.ntmps34 rfl hw ?_
  refine WC.drawAny (Hs := []) mixed (by kernel_rfl) ⟨_, (by repeat (first | exact TakeL.nil | (apply TakeL.cons; · repeat (first | exact Take1.head | apply Take1.tail))))⟩ ?_
  refine WD.take 0 rfl (by kernel_rfl) (by kernel_rfl) (by kernel_rfl) rfl rfl (Yl.move rfl) rfl ?_ -- t4
  refine WD.take 1 rfl (by kernel_rfl) (by kernel_rfl) (by kernel_rfl) rfl rfl (Yl.nilCheck rfl) rfl ?_ -- t5
  refine WD.take 2 rfl (by kernel_rfl) (by kernel_rfl) (by kernel_rfl) rfl rfl (Yl.field fo34_4 rfl) rfl ?_ -- t6
  refine WD.take 3 rfl (by kernel_rfl) (by kernel_rfl) (by kernel_rfl) rfl rfl (Yl.sliceArr un31 sz5 (by decide) rfl) rfl ?_ -- t7
  refine WD.take 4 rfl (by kernel_rfl) (by kernel_rfl) (by kernel_rfl) rfl rfl (Yl.move rfl) rfl ?_ -- t8
  refine WD.one 5 (by kernel_rfl) ?_
  refine WO.callC (xs := [.tmp 8, _]) (cap := []) rfl .no rfl rfl en22 (by repeat (first | exact TakeL.nil | (apply TakeL.cons; · repeat (first | exact Take1.head | apply Take1.tail)))) (fun w hw => inFixed_any b ao cap 32 B W r hr hc w hw.left.here) rfl (fun _ => ⟨_, (by repeat (first | exact TakeL.nil | (apply TakeL.cons; · repeat (first | exact Take1.head | apply Take1.tail))))⟩) ?_ -- t9 (*hailer/wire.In).Fixed
  rintro ⟨⟨a4, c4⟩, z⟩ ⟨q1, q2, q3, q4⟩
  dsimp only at q1 q2 q3 q4 ⊢
  rw [hT4] at q1 q2
  rw [hB4] at q3 q4
  rw [hT4, hB4, hW4]
  refine WD.one 6 (by kernel_rfl) ?_
  refine WO.to rfl rfl .no (To.copy un22 sz5 rfl rfl (by repeat (first | exact Take1.head | apply Take1.tail)) (Reads.of q1 (by repeat (first | exact Take1.head | apply Take1.tail))) (ints_one _ _) (fitLe (by rw [Sg.len hs]; omega)) (Sg.okey h16 h32 hT4l)) rfl (fun _ => ⟨_, (by repeat (first | exact TakeL.nil | (apply TakeL.cons; · repeat (first | exact Take1.head | apply Take1.tail))))⟩) ?_
  rintro ⟨⟩
  refine WD.done (by kernel_rfl) ?_
  repeat (first | (with_reducible refine peelT ?_) | (with_reducible refine peelB ?_) | (with_reducible refine peelTX ?_) | (with_reducible refine peelBX ?_) | (with_reducible refine peelBN ?_) | (with_reducible refine peelBO rfl ?_))
  exact ret0 (.inl rfl) Try.results34 fun w' h => ⟨(z, s.da, s.dc), ⟨q3, q4, hda⟩, rfl, h.sub (by repeat (first | exact TakeL.nil | (apply TakeL.cons; · repeat (first | exact Take1.head | apply Take1.tail))))⟩

theorem take5_any : Fn Try.prog 42 [.pointer (some ⟨b, 0, none⟩), .pointer (some ⟨bS, 0, none⟩)] [inR b (.slice ao B.length cap) W, r, blkR bS 34 s.cells] w (TsΦ r (tkS 5 s B W)) (fun _ => .tuple #[]) (TsB b bS r (tkS 5 s B W)) := by
  have h16 := hs.il
  have h32 := hs.kl
  rw [show tkS 5 s B W = _ from (if_neg (by decide)).trans ((if_neg (by decide)).trans ((if_neg (by decide)).trans (if_pos rfl)))]
  obtain ⟨p, hp⟩ : ∃ B', val (tkR 1 B W) = B' := ⟨_, rfl⟩
  obtain ⟨B1, hB1⟩ : ∃ B', tkB 1 B W = B' := ⟨_, rfl⟩
  obtain ⟨W1, hW1⟩ : ∃ B', tkW 1 B W = B' := ⟨_, rfl⟩
  rw [hp, hB1, hW1]
  refine enterF Try.func42 rfl Try.ntmps42 rfl hw ?_
  refine WC.region ?_
  refine WL.y (Yl.move rfl) rfl ?_ -- t4
  refine WL.y (Yl.move rfl) rfl ?_ -- t5
  refine WL.callC (xs := [.tmp 5]) (cap := []) rfl rfl en21 (by repeat (first | exact TakeL.nil | (apply TakeL.cons; · repeat (first | exact Take1.head | apply Take1.tail)))) (fun w hw => inU8_any b ao cap B W r hr hc hB w hw.left.here) rfl ?_ -- t6 (*hailer/wire.In).U8
  rintro ⟨a1, c1⟩ ⟨r1, hc1⟩
  dsimp only at r1 hc1 ⊢
  rw [hB1] at r1 hc1
  rw [hp, hB1, hW1]
  refine WL.y (Yl.nilCheck rfl) rfl ?_ -- t7
  refine WL.y (Yl.field fo34_7 rfl) rfl ?_ -- t8
  refine WL.sto (Sto.one sz5 rfl rfl (by repeat (first | exact Take1.head | apply Take1.tail)) rfl (fitLt (by rw [Sg.len hs]; omega)) (Sg.s54 h16 h32 p)) (fun _ h => nomatch h) ?_
  refine WL.nil ?_
  repeat (first | (with_reducible refine peelT ?_) | (with_reducible refine peelB ?_) | (with_reducible refine peelTX ?_) | (with_reducible refine peelBX ?_) | (with_reducible refine peelBN ?_) | (with_reducible refine peelBO rfl ?_))
  exact ret0 (.inl rfl) Try.results42 fun w' h => ⟨((a1, c1), s.da, s.dc), ⟨r1, hc1, hda⟩, rfl, h.sub (by repeat (first | exact TakeL.nil | (apply TakeL.cons; · repeat (first | exact Take1.head | apply Take1.tail))))⟩

theorem take3_any : Fn Try.prog 38 [.pointer (some ⟨b, 0, none⟩), .pointer (some ⟨bS, 0, none⟩)] [inR b (.slice ao B.length cap) W, r, blkR bS 34 s.cells] w (TsΦ r (tkS 3 s B W)) (fun _ => .tuple #[]) (TsB b bS r (tkS 3 s B W)) := by
  have h16 := hs.il
  have h32 := hs.kl
  rw [show tkS 3 s B W = _ from (if_neg (by decide)).trans ((if_neg (by decide)).trans (if_pos rfl))]
  dsimp only
  obtain ⟨p, hp⟩ : ∃ B', val (tkR 4 B W) = B' := ⟨_, rfl⟩
  obtain ⟨B1, hB1⟩ : ∃ B', tkB 4 B W = B' := ⟨_, rfl⟩
  obtain ⟨W1, hW1⟩ : ∃ B', tkW 4 B W = B' := ⟨_, rfl⟩
  rw [hp, hB1, hW1]
  have k1 : Bytes B1 := hB1 ▸ hB.tkB 4 W
  obtain ⟨T2, hT2⟩ : ∃ B', tkR (szK B1 W1) (tkB 2 B1 W1) (mnW B1 W1 1024) = B' := ⟨_, rfl⟩
  obtain ⟨B2, hB2⟩ : ∃ B', tkB (szK B1 W1) (tkB 2 B1 W1) (mnW B1 W1 1024) = B' := ⟨_, rfl⟩
  obtain ⟨W2, hW2⟩ : ∃ B', tkW (szK B1 W1) (tkB 2 B1 W1) (mnW B1 W1 1024) = B' := ⟨_, rfl⟩
  rw [hT2, hB2, hW2]
  refine enterF Try.func38 rfl Try.ntmps38 rfl hw ?_
  refine WC.region ?_
  refine WL.y (Yl.move rfl) rfl ?_ -- t4
  refine WL.y (Yl.move rfl) rfl ?_ -- t5
  refine WL.y (Yl.move rfl) rfl ?_ -- t6
  refine WL.callC (xs := [.tmp 6]) (cap := []) rfl rfl en39 (by repeat (first | exact TakeL.nil | (apply TakeL.cons; · repeat (first | exact Take1.head | apply Take1.tail)))) (fun w hw => inU32_any b ao cap B W r hr hc hB w hw.left.here) rfl ?_ -- t7 (*hailer/wire.In).U32
  rintro ⟨a1, c1⟩ ⟨r1, hc1⟩
  dsimp only at r1 hc1 ⊢
  rw [hB1] at r1 hc1
  rw [hp, hB1, hW1]
  refine WL.y (Yl.move rfl) rfl ?_ -- t8
  refine WL.callC (xs := [.tmp 8, _]) (cap := []) rfl rfl en40 (by repeat (first | exact TakeL.nil | (apply TakeL.cons; · repeat (first | exact Take1.head | apply Take1.tail)))) (fun w hw => inSized_any b a1 c1 B1 W1 1024 r r1 hc1 k1 w hw.left.here) rfl ?_ -- t9 (*hailer/wire.In).Sized
  rintro ⟨⟨a4, c4⟩, z⟩ ⟨q1, q2, q3, q4⟩
  dsimp only at q1 q2 q3 q4 ⊢
  rw [hT2] at q1 q2
  rw [hB2] at q3 q4
  rw [hT2, hB2, hW2]
  refine WL.y (Yl.nilCheck rfl) rfl ?_ -- t10
  refine WL.y (Yl.field fo34_5 rfl) rfl ?_ -- t11
  refine WL.sto (Sto.one sz32 rfl rfl (by repeat (first | exact Take1.head | apply Take1.tail)) rfl (fitLt (by rw [Sg.len hs]; omega)) (Sg.s52 h16 h32 p)) (fun _ h => nomatch h) ?_
  refine WL.y (Yl.nilCheck rfl) rfl ?_ -- t12
  refine WL.y (Yl.field fo34_6 rfl) rfl ?_ -- t13
  refine WL.sto (Sto.one sz22 rfl rfl (by repeat (first | exact Take1.head | apply Take1.tail)) rfl (fitLt (by rw [Sg.len2 h16 h32]; omega)) (Sg.s53 (s := { s with n := p }) h16 h32 a4 c4 T2)) (fun _ h => nomatch h) ?_
  refine WL.nil ?_
  repeat (first | (with_reducible refine peelT ?_) | (with_reducible refine peelB ?_) | (with_reducible refine peelTX ?_) | (with_reducible refine peelBX ?_) | (with_reducible refine peelBN ?_) | (with_reducible refine peelBO rfl ?_))
  exact ret0 (.inl rfl) Try.results38 fun w' h => ⟨(z, a4, c4), ⟨q3, q4, q1⟩, rfl, h.sub (by repeat (first | exact TakeL.nil | (apply TakeL.cons; · repeat (first | exact Take1.head | apply Take1.tail))))⟩

theorem take0_any (k : Int) (k1 : ¬ k = 1) (k2 : ¬ k = 2) (k3 : ¬ k = 3) (k5 : ¬ k = 5) : Fn Try.prog 44 [.pointer (some ⟨b, 0, none⟩), .pointer (some ⟨bS, 0, none⟩)] [inR b (.slice ao B.length cap) W, r, blkR bS 34 s.cells] w (TsΦ r (tkS k s B W)) (fun _ => .tuple #[]) (TsB b bS r (tkS k s B W)) := by
  rw [show tkS k s B W = _ from (if_neg k1).trans ((if_neg k2).trans ((if_neg k3).trans (if_neg k5)))]
  refine enterF Try.func44 rfl Try.ntmps44 rfl hw ?_
  refine WC.skip ?_
  repeat (first | (with_reducible refine peelT ?_) | (with_reducible refine peelB ?_) | (with_reducible refine peelTX ?_) | (with_reducible refine peelBX ?_) | (with_reducible refine peelBN ?_) | (with_reducible refine peelBO rfl ?_))
  exact ret0 (.inl rfl) Try.results44 fun w' h => ⟨((ao, cap), s.da, s.dc), ⟨hr, hc, hda⟩, rfl, h.sub (by repeat (first | exact TakeL.nil | (apply TakeL.cons; · repeat (first | exact Take1.head | apply Take1.tail))))⟩

theorem takeOf_any (k : Int) : Fn Try.prog (takeOf k) [.pointer (some ⟨b, 0, none⟩), .pointer (some ⟨bS, 0, none⟩)] [inR b (.slice ao B.length cap) W, r, blkR bS 34 s.cells] w (TsΦ r (tkS k s B W)) (fun _ => .tuple #[]) (TsB b bS r (tkS k s B W)) := by
  unfold takeOf
  split
  · rename_i h; subst h; exact take1_any s hs b bS ao cap B W r hr hc hB hda w hw
  split
  · rename_i h; subst h; exact take2_any s hs b bS ao cap B W r hr hc hB hda w hw
  split
  · rename_i h; subst h; exact take3_any s hs b bS ao cap B W r hr hc hB hda w hw
  split
  · rename_i h; subst h; exact take5_any s hs b bS ao cap B W r hr hc hB hda w hw
  · rename_i h1 h2 h3 h5; exact take0_any s hs b bS ao cap B W r hr hc hB hda w hw k h1 h2 h3 h5
end
end Go.Proofs.Ytnmeoleahcnnkaa
