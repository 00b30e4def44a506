/- The words of the sums, as numbers: plain laws. -/
import Derived.Test.YtcplbkbimpiioaaGreatDoorFacts
import Derived.Test.YtcplbkbimpiioaaGreatDoorLibZ
namespace Go.Proofs.YtcplbkbimpiioaaGreatDoor
open Go Go.RowKit

def rot (k : IntKind) (B x n : Int) : Int := bits .or k (x / 2 ^ n.toNat) (k.wrap (x * 2 ^ (B - n).toNat))
def bigF (k : IntKind) (B x a b c : Int) : Int := bits .xor k (bits .xor k (rot k B x a) (rot k B x b)) (rot k B x c)
def smallF (k : IntKind) (B x a b c : Int) : Int := bits .xor k (bits .xor k (rot k B x a) (rot k B x b)) (x / 2 ^ c.toNat)
def three (a b c : Int) : List Value := [.int .i64 a, .int .i64 b, .int .i64 c]

structure Tn where
  a1 : Int
  a2 : Int
  a3 : Int
  e1 : Int
  e2 : Int
  e3 : Int
  u1 : Int
  u2 : Int
  u3 : Int
  v1 : Int
  v2 : Int
  v3 : Int

def Tn.ok (T : Tn) (B : Int) : Prop :=
  ((0 ≤ T.a1 ∧ T.a1 ≤ B) ∧ (0 ≤ T.a2 ∧ T.a2 ≤ B) ∧ (0 ≤ T.a3 ∧ T.a3 ≤ B)) ∧ ((0 ≤ T.e1 ∧ T.e1 ≤ B) ∧ (0 ≤ T.e2 ∧ T.e2 ≤ B) ∧ (0 ≤ T.e3 ∧ T.e3 ≤ B)) ∧
  ((0 ≤ T.u1 ∧ T.u1 ≤ B) ∧ (0 ≤ T.u2 ∧ T.u2 ≤ B) ∧ (0 ≤ T.u3 ∧ T.u3 ≤ B)) ∧ ((0 ≤ T.v1 ∧ T.v1 ≤ B) ∧ (0 ≤ T.v2 ∧ T.v2 ≤ B) ∧ (0 ≤ T.v3 ∧ T.v3 ≤ B))

/-- The machine's cells. -/
def mC (hv kv : Value) (z : Int) (T : Tn) : List Value :=
  [hv, kv, .int .i64 z, .int .i64 T.a1, .int .i64 T.a2, .int .i64 T.a3, .int .i64 T.e1, .int .i64 T.e2, .int .i64 T.e3, .int .i64 T.u1, .int .i64 T.u2, .int .i64 T.u3, .int .i64 T.v1, .int .i64 T.v2, .int .i64 T.v3]

/-- The words of a block, behind so many of its bytes. -/
def ldF (k : IntKind) (z n : Nat) (bs : List Int) : Nat → List Int
  | 0 => List.replicate n 0
  | i + 1 => (ldF k z n bs i).set (i / z) (bits .or k (k.wrap ((ldF k z n bs i).getD (i / z) 0 * 2 ^ (8 : Int).toNat)) (k.wrap (bs.getD i 0)))
theorem ldF_len (k : IntKind) (z n : Nat) (bs : List Int) : ∀ i, (ldF k z n bs i).length = n
  | 0 => by simp [ldF]
  | i + 1 => by simp [ldF, ldF_len k z n bs i]

def moreF (k : IntKind) (B : Int) (T : Tn) (L : List Int) (j : Nat) : Int :=
  k.wrap (k.wrap (k.wrap (smallF k B (L.getD (14 + j) 0) T.v1 T.v2 T.v3 + L.getD (9 + j) 0) + smallF k B (L.getD (1 + j) 0) T.u1 T.u2 T.u3) + L.getD j 0)
def exF (k : IntKind) (B : Int) (T : Tn) (ws : List Int) : Nat → List Int
  | 0 => ws
  | j + 1 => (exF k B T ws j).set (16 + j) (moreF k B T (exF k B T ws j) j)
theorem exF_len (k : IntKind) (B : Int) (T : Tn) (ws : List Int) : ∀ j, (exF k B T ws j).length = ws.length
  | 0 => rfl
  | j + 1 => by simp [exF, exF_len k B T ws j]

def comF (k : IntKind) (e : Int) : Int := bits .xor k (if k.signed then -1 else k.max) e
def pF (k : IntKind) (B : Int) (T : Tn) (x7 e x5 x6 kk ww : Int) : Int :=
  k.wrap (k.wrap (k.wrap (k.wrap (x7 + bigF k B e T.e1 T.e2 T.e3) + bits .xor k (bits .and k e x5) (bits .and k (comF k e) x6)) + kk) + ww)
def qF (k : IntKind) (B : Int) (T : Tn) (a b c : Int) : Int :=
  k.wrap (bigF k B a T.a1 T.a2 T.a3 + bits .xor k (bits .xor k (bits .and k a b) (bits .and k a c)) (bits .and k b c))
def rdF (k : IntKind) (B : Int) (T : Tn) (x : List Int) (kk ww : Int) : List Int :=
  match x with
  | [x0, x1, x2, x3, x4, x5, x6, x7] => [k.wrap (pF k B T x7 x4 x5 x6 kk ww + qF k B T x0 x1 x2), x0, x1, x2, k.wrap (x3 + pF k B T x7 x4 x5 x6 kk ww), x4, x5, x6]
  | x => x
def rsF (k : IntKind) (B : Int) (T : Tn) (ks ws x : List Int) : Nat → List Int
  | 0 => x
  | j + 1 => rdF k B T (rsF k B T ks ws x j) (ks.getD j 0) (ws.getD j 0)
theorem len8 {x : List Int} (h : x.length = 8) : ∃ x0 x1 x2 x3 x4 x5 x6 x7 : Int, x = [x0, x1, x2, x3, x4, x5, x6, x7] := by
  match x, h with
  | [a0, a1, a2, a3, a4, a5, a6, a7], _ => exact ⟨a0, a1, a2, a3, a4, a5, a6, a7, rfl⟩
theorem rdF_len {k : IntKind} {B : Int} {T : Tn} {x : List Int} {kk ww : Int} (h : x.length = 8) : (rdF k B T x kk ww).length = 8 := by
  obtain ⟨x0, x1, x2, x3, x4, x5, x6, x7, rfl⟩ := len8 h
  rfl
theorem rsF_len {k : IntKind} {B : Int} {T : Tn} {ks ws x : List Int} (h : x.length = 8) : ∀ j, (rsF k B T ks ws x j).length = 8
  | 0 => h
  | j + 1 => rdF_len (rsF_len h j)
def adF (k : IntKind) (H x : List Int) : Nat → List Int
  | 0 => H
  | i + 1 => (adF k H x i).set i (k.wrap ((adF k H x i).getD i 0 + x.getD i 0))
theorem adF_len (k : IntKind) (H x : List Int) : ∀ i, (adF k H x i).length = H.length
  | 0 => rfl
  | i + 1 => by simp [adF, adF_len k H x i]
/-- The state behind a block. -/
def blockF (k : IntKind) (B : Int) (z n : Nat) (T : Tn) (ks H bs : List Int) : List Int :=
  adF k H (rsF k B T ks (exF k B T (ldF k z n bs bs.length) (n - 16)) H n) 8
theorem blockF_len {k : IntKind} {B : Int} {z n : Nat} {T : Tn} {ks H bs : List Int} : (blockF k B z n T ks H bs).length = H.length := adF_len _ _ _ _

theorem put8 {ys zs : List Value} (h2 : zs.length = 8) : zs.take 0 ++ ys ++ zs.drop (0 + 8) = ys := by
  rw [List.drop_of_length_le (by omega)]
  simp
theorem copy8 {k : IntKind} {H : List Int} {zs : List Value} (h : H.length = 8) (hz : zs.length = 8) : zs.take 0 ++ (ints k H).take 8 ++ zs.drop (0 + ((ints k H).take 8).length) = ints k H := by
  have hl : (ints k H).length = 8 := by rw [ints_length, h]
  have e1 : (ints k H).take 8 = ints k H := List.take_of_length_le (by omega)
  rw [e1, hl, List.drop_of_length_le (l := zs) (by omega)]
  simp
end Go.Proofs.YtcplbkbimpiioaaGreatDoor

namespace Go.Proofs.YtcplbkbimpiioaaGreatDoor
open Go Go.RowKit
end Go.Proofs.YtcplbkbimpiioaaGreatDoor

namespace Go.Proofs.YtcplbkbimpiioaaGreatDoor
open Go Go.RowKit

theorem turn64_any (m : Nat) (mc : List Value) (hz : mc[0 + 2]? = some (.int .i64 8)) (x n : Int) (h0 : 0 ≤ n ∧ n ≤ 64) (w : World) (hm : BlkS w (fpL []) m 180 mc) (hw : OK w (fpL []) [] w) :
    Fn Tryz.prog 137 [.pointer (some ⟨m, 0, none⟩), .int .u64 x, .int .i64 n] [] w (fun _ : Unit => True) (fun _ => .int .u64 (rot .u64 64 x n)) (fun _ => []) := by
  refine enterF Tryz.func137 rfl Tryz.ntmps137 rfl hw ?_
  refine WC.seq ?_
  refine WC.region ?_
  refine WL.y (Yl.assign rfl) rfl ?_
  refine WL.nil ?_
  refine WC.seq ?_
  refine WC.drawRead mixed (by kernel_rfl) ?_
  refine WH.y (Yl.move rfl) rfl ?_
  refine WH.y (Yl.move rfl) rfl ?_
  refine WH.y (Yl.shr rfl rfl ⟨by omega, (by simp [IntKind.bits]; try omega)⟩ rfl) rfl ?_
  refine WH.y (Yl.move rfl) rfl ?_
  refine WH.y (Yl.move rfl) rfl ?_
  refine WH.y (Yl.nilCheck rfl) rfl ?_
  refine WH.y (Yl.field fo180_2 rfl) rfl ?_
  refine WH.y (Yl.loadS on3 rfl hm hz) rfl ?_
  refine WH.y (Yl.mul rfl rfl (IntWalk.i64_in _ (by omega))) rfl ?_
  refine WH.say (t := 15) (v' := .int .i64 64) rfl (by rfl) ?_
  refine WH.y (Yl.move rfl) rfl ?_
  refine WH.y (Yl.sub rfl rfl (IntWalk.i64_in _ (by omega))) rfl ?_
  refine WH.y (Yl.shl rfl rfl ⟨by omega, (by simp [IntKind.bits]; try omega)⟩ rfl) rfl ?_
  refine WH.y (Yl.or rfl rfl) rfl ?_
  refine WH.y (Yl.assign rfl) rfl ?_
  refine WH.nil ?_
  refine WC.ret ?_
  repeat (with_reducible (first | refine peelT ?_ | refine peelB ?_ | refine peelTX ?_ | refine peelBX ?_ | refine peelBN ?_ | refine peelBO rfl ?_))
  exact ret1 (.inr rfl) Tryz.results137 rfl fun w' h => ⟨(), trivial, rfl, h.sub (by repeat' constructor)⟩

theorem big64_any (m : Nat) (mc : List Value) (hz : mc[0 + 2]? = some (.int .i64 8)) (x a b c : Int) (h1 : 0 ≤ a ∧ a ≤ 64) (h2 : 0 ≤ b ∧ b ≤ 64) (h3 : 0 ≤ c ∧ c ≤ 64) (w : World) (hm : BlkS w (fpL []) m 180 mc) (hw : OK w (fpL []) [] w) :
    Fn Tryz.prog 132 [.pointer (some ⟨m, 0, none⟩), .int .u64 x, .agg (three a b c).toArray] [] w (fun _ : Unit => True) (fun _ => .int .u64 (bigF .u64 64 x a b c)) (fun _ => []) := by
  refine enterF Tryz.func132 rfl Tryz.ntmps132 rfl hw ?_
  refine WC.seq ?_
  refine WC.region ?_
  refine WL.to (To.box (cs := three a b c) rfl rfl) rfl ?_
  intro b5
  refine WL.y (Yl.assign rfl) rfl ?_
  refine WL.nil ?_
  refine WC.seq ?_
  refine WC.drawAny (Hs := [blkR b5 176 (three a b c)]) mixed (by kernel_rfl) ⟨_, (by repeat' constructor)⟩ ?_
  refine WD.tk 0 rfl (by kernel_rfl) rfl rfl (Yl.move rfl) rfl ?_
  refine WD.tk 1 rfl (by kernel_rfl) rfl rfl (Yl.move rfl) rfl ?_
  refine WD.tk 2 rfl (by kernel_rfl) rfl rfl (Yl.indexA (j := 0) un176 sz3 rfl rfl rfl (by omega)) rfl ?_
  refine WD.tk 3 rfl (by kernel_rfl) rfl rfl (Yl.load on3 rfl (by repeat constructor) (by rfl)) rfl ?_
  refine WD.tk 5 rfl (by kernel_rfl) rfl rfl (Yl.move rfl) rfl ?_
  refine WD.tk 6 rfl (by kernel_rfl) rfl rfl (Yl.move rfl) rfl ?_
  refine WD.tk 7 rfl (by kernel_rfl) rfl rfl (Yl.indexA (j := 1) un176 sz3 rfl rfl rfl (by omega)) rfl ?_
  refine WD.tk 8 rfl (by kernel_rfl) rfl rfl (Yl.load on3 rfl (by repeat constructor) (by rfl)) rfl ?_
  refine WD.tk 11 rfl (by kernel_rfl) rfl rfl (Yl.move rfl) rfl ?_
  refine WD.tk 12 rfl (by kernel_rfl) rfl rfl (Yl.move rfl) rfl ?_
  refine WD.tk 13 rfl (by kernel_rfl) rfl rfl (Yl.indexA (j := 2) un176 sz3 rfl rfl rfl (by omega)) rfl ?_
  refine WD.tk 14 rfl (by kernel_rfl) rfl rfl (Yl.load on3 rfl (by repeat constructor) (by rfl)) rfl ?_
  refine WD.one 4 (by kernel_rfl) ?_
  refine WO.callC (xs := [.tmp 7, .tmp 8, .tmp 10]) (cap := []) rfl .no rfl rfl en137 (by repeat' constructor) (fun w hw => turn64_any m mc hz x a h1 w (hw.srcBS (A := []) hm) hw.left.here) rfl (fun _ => ⟨_, (by repeat' constructor)⟩) ?_
  rintro ⟨⟩ -
  refine WD.one 9 (by kernel_rfl) ?_
  refine WO.callC (xs := [.tmp 12, .tmp 13, .tmp 15]) (cap := []) rfl .no rfl rfl en137 (by repeat' constructor) (fun w hw => turn64_any m mc hz x b h2 w (hw.srcBS (A := []) hm) hw.left.here) rfl (fun _ => ⟨_, (by repeat' constructor)⟩) ?_
  rintro ⟨⟩ -
  refine WD.tk 10 rfl (by kernel_rfl) rfl rfl (Yl.xor rfl rfl) rfl ?_
  refine WD.one 15 (by kernel_rfl) ?_
  refine WO.callC (xs := [.tmp 18, .tmp 19, .tmp 21]) (cap := []) rfl .no rfl rfl en137 (by repeat' constructor) (fun w hw => turn64_any m mc hz x c h3 w (hw.srcBS (A := []) hm) hw.left.here) rfl (fun _ => ⟨_, (by repeat' constructor)⟩) ?_
  rintro ⟨⟩ -
  refine WD.tk 16 rfl (by kernel_rfl) rfl rfl (Yl.xor rfl rfl) rfl ?_
  refine WD.tk 17 rfl (by kernel_rfl) rfl rfl (Yl.assign rfl) rfl ?_
  refine WD.done (by kernel_rfl) ?_
  refine WC.ret ?_
  repeat (with_reducible (first | refine peelT ?_ | refine peelB ?_ | refine peelTX ?_ | refine peelBX ?_ | refine peelBN ?_ | refine peelBO rfl ?_))
  exact ret1 (.inr rfl) Tryz.results132 rfl fun w' h => ⟨(), trivial, rfl, h.sub (by repeat' constructor)⟩

theorem small64_any (m : Nat) (mc : List Value) (hz : mc[0 + 2]? = some (.int .i64 8)) (x a b c : Int) (h1 : 0 ≤ a ∧ a ≤ 64) (h2 : 0 ≤ b ∧ b ≤ 64) (h3 : 0 ≤ c ∧ c ≤ 64) (w : World) (hm : BlkS w (fpL []) m 180 mc) (hw : OK w (fpL []) [] w) :
    Fn Tryz.prog 131 [.pointer (some ⟨m, 0, none⟩), .int .u64 x, .agg (three a b c).toArray] [] w (fun _ : Unit => True) (fun _ => .int .u64 (smallF .u64 64 x a b c)) (fun _ => []) := by
  refine enterF Tryz.func131 rfl Tryz.ntmps131 rfl hw ?_
  refine WC.seq ?_
  refine WC.region ?_
  refine WL.to (To.box (cs := three a b c) rfl rfl) rfl ?_
  intro b5
  refine WL.y (Yl.assign rfl) rfl ?_
  refine WL.nil ?_
  refine WC.seq ?_
  refine WC.drawAny (Hs := [blkR b5 176 (three a b c)]) mixed (by kernel_rfl) ⟨_, (by repeat' constructor)⟩ ?_
  refine WD.tk 0 rfl (by kernel_rfl) rfl rfl (Yl.move rfl) rfl ?_
  refine WD.tk 1 rfl (by kernel_rfl) rfl rfl (Yl.move rfl) rfl ?_
  refine WD.tk 2 rfl (by kernel_rfl) rfl rfl (Yl.indexA (j := 0) un176 sz3 rfl rfl rfl (by omega)) rfl ?_
  refine WD.tk 3 rfl (by kernel_rfl) rfl rfl (Yl.load on3 rfl (by repeat constructor) (by rfl)) rfl ?_
  refine WD.tk 5 rfl (by kernel_rfl) rfl rfl (Yl.move rfl) rfl ?_
  refine WD.tk 6 rfl (by kernel_rfl) rfl rfl (Yl.move rfl) rfl ?_
  refine WD.tk 7 rfl (by kernel_rfl) rfl rfl (Yl.indexA (j := 1) un176 sz3 rfl rfl rfl (by omega)) rfl ?_
  refine WD.tk 8 rfl (by kernel_rfl) rfl rfl (Yl.load on3 rfl (by repeat constructor) (by rfl)) rfl ?_
  refine WD.tk 11 rfl (by kernel_rfl) rfl rfl (Yl.move rfl) rfl ?_
  refine WD.tk 12 rfl (by kernel_rfl) rfl rfl (Yl.indexA (j := 2) un176 sz3 rfl rfl rfl (by omega)) rfl ?_
  refine WD.tk 13 rfl (by kernel_rfl) rfl rfl (Yl.load on3 rfl (by repeat constructor) (by rfl)) rfl ?_
  refine WD.tk 14 rfl (by kernel_rfl) rfl rfl (Yl.shr rfl rfl ⟨by omega, (by simp [IntKind.bits]; try omega)⟩ rfl) rfl ?_
  refine WD.one 4 (by kernel_rfl) ?_
  refine WO.callC (xs := [.tmp 7, .tmp 8, .tmp 10]) (cap := []) rfl .no rfl rfl en137 (by repeat' constructor) (fun w hw => turn64_any m mc hz x a h1 w (hw.srcBS (A := []) hm) hw.left.here) rfl (fun _ => ⟨_, (by repeat' constructor)⟩) ?_
  rintro ⟨⟩ -
  refine WD.one 9 (by kernel_rfl) ?_
  refine WO.callC (xs := [.tmp 12, .tmp 13, .tmp 15]) (cap := []) rfl .no rfl rfl en137 (by repeat' constructor) (fun w hw => turn64_any m mc hz x b h2 w (hw.srcBS (A := []) hm) hw.left.here) rfl (fun _ => ⟨_, (by repeat' constructor)⟩) ?_
  rintro ⟨⟩ -
  refine WD.tk 10 rfl (by kernel_rfl) rfl rfl (Yl.xor rfl rfl) rfl ?_
  refine WD.tk 15 rfl (by kernel_rfl) rfl rfl (Yl.xor rfl rfl) rfl ?_
  refine WD.tk 16 rfl (by kernel_rfl) rfl rfl (Yl.assign rfl) rfl ?_
  refine WD.done (by kernel_rfl) ?_
  refine WC.ret ?_
  repeat (with_reducible (first | refine peelT ?_ | refine peelB ?_ | refine peelTX ?_ | refine peelBX ?_ | refine peelBN ?_ | refine peelBO rfl ?_))
  exact ret1 (.inr rfl) Tryz.results131 rfl fun w' h => ⟨(), trivial, rfl, h.sub (by repeat' constructor)⟩
end Go.Proofs.YtcplbkbimpiioaaGreatDoor

namespace Go.Proofs.YtcplbkbimpiioaaGreatDoor
open Go Go.RowKit
end Go.Proofs.YtcplbkbimpiioaaGreatDoor

namespace Go.Proofs.YtcplbkbimpiioaaGreatDoor
open Go Go.RowKit

set_option maxRecDepth 100000 in
theorem block64_any (m : Nat) (ho ko : Option Addr) (hc kc : Nat) (T : Tn) (hT : T.ok 64) (H ks bs : List Int) (v : Value) (hH : H.length = 8) (hks : ks.length = 80) (hbs : bs.length = 16 * 8) (w : World)
    (hm : BlkS w (fpL [ownR (.slice ho 8 hc) 122 1 8 (ints .u64 H)]) m 180 (mC (.slice ho 8 hc) (.slice ko 80 kc) 8 T)) (hk : RdS w (fpL [ownR (.slice ho 8 hc) 122 1 8 (ints .u64 H)]) (.slice ko 80 kc) 1 80 (ints .u64 ks))
    (hx : RdS w (fpL [ownR (.slice ho 8 hc) 122 1 8 (ints .u64 H)]) v 1 bs.length (ints .u8 bs)) (hw : OK w (fpL [ownR (.slice ho 8 hc) 122 1 8 (ints .u64 H)]) [ownR (.slice ho 8 hc) 122 1 8 (ints .u64 H)] w) :
    Fn Tryz.prog 118 [.pointer (some ⟨m, 0, none⟩), v] [ownR (.slice ho 8 hc) 122 1 8 (ints .u64 H)] w (fun _ : Unit => True) (fun _ => .tuple #[]) (fun _ => [ownR (.slice ho 8 hc) 122 1 8 (ints .u64 (blockF .u64 64 8 80 T ks H bs))]) := by
  obtain ⟨al, cl, rfl, hcl, hml⟩ := hx.rd.form
  have hT1 := hT.1
  have hT2 := hT.2.1
  have hT3 := hT.2.2.1
  have hT4 := hT.2.2.2
  refine enterF Tryz.func118 rfl Tryz.ntmps118 rfl hw ?_
  refine WC.seq ?_
  refine WC.region ?_
  refine WL.y (Yl.move rfl) rfl ?_
  refine WL.y (Yl.nilCheck rfl) rfl ?_
  refine WL.y (Yl.field fo180_1 rfl) rfl ?_
  refine WL.y (Yl.loadS on156 rfl hm (by rfl)) rfl ?_
  refine WL.y (Yl.len un156 rfl) rfl ?_
  refine WL.to (To.makeSlice un156 zb156_122 rfl rfl rfl (by omega) (by unfold maxLen; omega)) rfl ?_
  intro b22
  refine WL.y (Yl.assign rfl) rfl ?_
  refine WL.nil ?_
  refine WC.seq ?_
  refine WC.seq ?_
  refine WC.region ?_
  refine WL.y (Yl.move rfl) rfl ?_
  refine WL.y (Yl.len un54 rfl) rfl ?_
  refine WL.y (Yl.move rfl) rfl ?_
  refine WL.nil ?_
  refine WC.block ?_
  refine WC.view (fun w h => h.blkOwn (b := b22) (size := 1) (n := 80) (by repeat constructor) (by unfold maxLen; omega) rfl) ?_
  rw [show List.replicate 80 (Value.int .u64 0) = ints .u64 (ldF .u64 8 80 bs 0) by simp [ldF, ints]]
  refine WC.loop (α := Nat) (fun j => [(0, .pointer (some ⟨m, 0, none⟩)), (1, .slice al bs.length cl), (4, .slice (some ⟨b22, 0, none⟩) 80 80), (24, .int .i64 (bs.length : Int)), (25, .int .i64 (j : Int))]) (fun j => [ownR (.slice (some ⟨b22, 0, none⟩) 80 80) 122 1 80 (ints .u64 (ldF .u64 8 80 bs j)), ownR (.slice ho 8 hc) 122 1 8 (ints .u64 H)]) (fun j => j ≤ bs.length) (fun j => bs.length - j) 0 (Nat.zero_le _) ⟨(by repeat' constructor), _, (by repeat' constructor)⟩ ?_
  intro j hj
  have hll := ldF_len .u64 8 80 bs j
  refine WC.seq ?_
  refine WC.region ?_
  refine WL.y (Yl.lss rfl rfl) rfl ?_
  refine WL.nil ?_
  refine WC.seq ?_
  refine WC.condD rfl (fun g26 => ?_) (fun g26 => ?_)
  · refine WC.skip ?_
    refine WC.seq ?_
    refine WC.block ?_
    refine WC.seq ?_
    refine WC.region ?_
    refine WL.y (Yl.move rfl) rfl ?_
    refine WL.y (Yl.assign rfl) rfl ?_
    refine WL.nil ?_
    refine WC.drawTail 24 mixed (by kernel_rfl) ?_
    refine WH.y (Yl.move rfl) rfl ?_
    refine WH.y (Yl.move rfl) rfl ?_
    refine WH.y (Yl.move rfl) rfl ?_
    refine WH.y (Yl.nilCheck rfl) rfl ?_
    refine WH.y (Yl.field fo180_2 rfl) rfl ?_
    refine WH.y (Yl.loadS on3 rfl hm (by rfl)) rfl ?_
    refine WH.y (Yl.quo rfl rfl (by omega) (i64_quo (by omega) (by omega))) rfl ?_
    refine WH.say (t := 34) (v' := .int .i64 ((j / 8 : Nat) : Int)) rfl (by (refine congrArg _ ?_; omega)) ?_
    refine WH.y (Yl.move rfl) rfl ?_
    refine WH.y (Yl.move rfl) rfl ?_
    refine WH.y (Yl.move rfl) rfl ?_
    refine WH.y (Yl.nilCheck rfl) rfl ?_
    refine WH.y (Yl.field fo180_2 rfl) rfl ?_
    refine WH.y (Yl.loadS on3 rfl hm (by rfl)) rfl ?_
    refine WH.y (Yl.quo rfl rfl (by omega) (i64_quo (by omega) (by omega))) rfl ?_
    refine WH.say (t := 41) (v' := .int .i64 ((j / 8 : Nat) : Int)) rfl (by (refine congrArg _ ?_; omega)) ?_
    refine WH.y (Yl.index un156 sz122 rfl rfl (Reads.of RdOf.own (by repeat constructor)) rfl (by omega)) rfl ?_
    refine WH.y (Yl.loadE on122 rfl (Reads.of RdOf.own (by repeat constructor)) (ints_get _ _ (j / 8) (by rw [hll]; omega))) rfl ?_
    refine WH.y (Yl.shl rfl rfl ⟨by omega, (by simp [IntKind.bits]; try omega)⟩ rfl) rfl ?_
    refine WH.y (Yl.move rfl) rfl ?_
    refine WH.y (Yl.move rfl) rfl ?_
    refine WH.y (Yl.index un54 sz5 rfl rfl (Reads.s hx) rfl (by omega)) rfl ?_
    refine WH.y (Yl.loadE on5 rfl (Reads.s hx) (ints_get .u8 bs j (by omega))) rfl ?_
    refine WH.y (Yl.conv un5 un122 rfl rfl) rfl ?_
    refine WH.y (Yl.or rfl rfl) rfl ?_
    refine WH.y (Yl.index un156 sz122 rfl rfl (Reads.of RdOf.own (by repeat constructor)) rfl (by omega)) rfl ?_
    refine WH.nil ?_
    refine WP.sto (Sto.elem sz122 rfl rfl (by repeat constructor) rfl (by omega) (by rfl)) (fun _ h => nomatch h) ?_
    refine WP.nil ?_
    refine WC.region ?_
    refine WL.y (Yl.add rfl rfl (IntWalk.i64_in _ (by omega))) rfl ?_
    refine WL.y (Yl.move rfl) rfl ?_
    refine WL.nil ?_
    rw [ints_set]
    exact ⟨rfl, j + 1, by omega, by omega, (by repeat' constructor), _, (by repeat' constructor)⟩
  · refine WC.exit ?_
    refine WC.seq ?_
    refine WC.seq ?_
    refine WC.region ?_
    refine WL.y (Yl.assign rfl) rfl ?_
    refine WL.nil ?_
    refine WC.block ?_
    have hj2 : j = bs.length := by omega
    subst hj2
    obtain ⟨ws, hws⟩ : ∃ ws, ldF .u64 8 80 bs bs.length = ws := ⟨_, rfl⟩
    rw [hws] at hll ⊢
    refine WC.loop (α := Nat) (fun j => [(0, .pointer (some ⟨m, 0, none⟩)), (4, .slice (some ⟨b22, 0, none⟩) 80 80), (6, .int .i64 ((16 + j : Nat) : Int))]) (fun j => [ownR (.slice (some ⟨b22, 0, none⟩) 80 80) 122 1 80 (ints .u64 (exF .u64 64 T ws j)), ownR (.slice ho 8 hc) 122 1 8 (ints .u64 H)]) (fun j => j ≤ 80 - 16) (fun j => 80 - 16 - j) 0 (Nat.zero_le _) ⟨(by repeat' constructor), _, (by repeat' constructor)⟩ ?_
    intro j hj
    have hel := exF_len .u64 64 T ws j
    rw [hll] at hel
    refine WC.seq ?_
    refine WC.seq ?_
    refine WC.region ?_
    refine WL.y (Yl.move rfl) rfl ?_
    refine WL.y (Yl.move rfl) rfl ?_
    refine WL.y (Yl.len un156 rfl) rfl ?_
    refine WL.y (Yl.lss rfl rfl) rfl ?_
    refine WL.nil ?_
    refine WC.condD rfl (fun g56 => ?_) (fun g56 => ?_)
    · refine WC.skip ?_
      refine WC.seq ?_
      refine WC.block ?_
      have hself := hole_self (k := .u64) (L := exF .u64 64 T ws j) (t := 16 + j) (by omega)
      refine WC.drawI (Hs := [holeR (.slice (some ⟨b22, 0, none⟩) 80 80) 122 80 (ints .u64 (exF .u64 64 T ws j)) (16 + j)]) mixed (by kernel_rfl) (holeI (by repeat constructor) (by first | exact hself | exact ⟨_, rfl⟩)) ?_
      refine WD.tk 0 rfl (by kernel_rfl) rfl rfl (Yl.move rfl) rfl ?_
      refine WD.tk 1 rfl (by kernel_rfl) rfl rfl (Yl.move rfl) rfl ?_
      refine WD.tk 2 rfl (by kernel_rfl) rfl rfl (Yl.move rfl) rfl ?_
      refine WD.tk 3 rfl (by kernel_rfl) rfl rfl (Yl.move rfl) rfl ?_
      refine WD.tk 4 rfl (by kernel_rfl) rfl rfl (Yl.move rfl) rfl ?_
      refine WD.tk 5 rfl (by kernel_rfl) rfl rfl (Yl.sub rfl rfl (IntWalk.i64_in _ (by omega))) rfl ?_
      refine WD.tk 6 rfl (by kernel_rfl) rfl rfl (Yl.indexV (j := 14 + j) un156 sz122 rfl rfl (by omega) (by omega)) rfl ?_
      refine WD.tk 7 rfl (by kernel_rfl) rfl rfl (Yl.loadH on122 rfl (by repeat constructor) (ints_get _ _ (14 + j) (by omega)) (by omega)) rfl ?_
      refine WD.tk 8 rfl (by kernel_rfl) rfl rfl (Yl.move rfl) rfl ?_
      refine WD.tk 9 rfl (by kernel_rfl) rfl rfl (Yl.nilCheck rfl) rfl ?_
      refine WD.tk 10 rfl (by kernel_rfl) rfl rfl (Yl.field fo180_3 rfl) rfl ?_
      refine WD.tk 11 rfl (by kernel_rfl) rfl rfl (Yl.field fo178_3 rfl) rfl ?_
      refine WD.tk 12 rfl (by kernel_rfl) rfl rfl (Yl.loadNS ag176 rfl hm (by rfl) (show _ = three T.v1 T.v2 T.v3 from rfl)) rfl ?_
      refine WD.tk 14 rfl (by kernel_rfl) rfl rfl (Yl.move rfl) rfl ?_
      refine WD.tk 15 rfl (by kernel_rfl) rfl rfl (Yl.move rfl) rfl ?_
      refine WD.tk 16 rfl (by kernel_rfl) rfl rfl (Yl.sub rfl rfl (IntWalk.i64_in _ (by omega))) rfl ?_
      refine WD.tk 17 rfl (by kernel_rfl) rfl rfl (Yl.indexV (j := 9 + j) un156 sz122 rfl rfl (by omega) (by omega)) rfl ?_
      refine WD.tk 18 rfl (by kernel_rfl) rfl rfl (Yl.loadH on122 rfl (by repeat constructor) (ints_get _ _ (9 + j) (by omega)) (by omega)) rfl ?_
      refine WD.tk 20 rfl (by kernel_rfl) rfl rfl (Yl.move rfl) rfl ?_
      refine WD.tk 21 rfl (by kernel_rfl) rfl rfl (Yl.move rfl) rfl ?_
      refine WD.tk 22 rfl (by kernel_rfl) rfl rfl (Yl.move rfl) rfl ?_
      refine WD.tk 23 rfl (by kernel_rfl) rfl rfl (Yl.sub rfl rfl (IntWalk.i64_in _ (by omega))) rfl ?_
      refine WD.tk 24 rfl (by kernel_rfl) rfl rfl (Yl.indexV (j := 1 + j) un156 sz122 rfl rfl (by omega) (by omega)) rfl ?_
      refine WD.tk 25 rfl (by kernel_rfl) rfl rfl (Yl.loadH on122 rfl (by repeat constructor) (ints_get _ _ (1 + j) (by omega)) (by omega)) rfl ?_
      refine WD.tk 26 rfl (by kernel_rfl) rfl rfl (Yl.move rfl) rfl ?_
      refine WD.tk 27 rfl (by kernel_rfl) rfl rfl (Yl.nilCheck rfl) rfl ?_
      refine WD.tk 28 rfl (by kernel_rfl) rfl rfl (Yl.field fo180_3 rfl) rfl ?_
      refine WD.tk 29 rfl (by kernel_rfl) rfl rfl (Yl.field fo178_2 rfl) rfl ?_
      refine WD.tk 30 rfl (by kernel_rfl) rfl rfl (Yl.loadNS ag176 rfl hm (by rfl) (show _ = three T.u1 T.u2 T.u3 from rfl)) rfl ?_
      refine WD.tk 33 rfl (by kernel_rfl) rfl rfl (Yl.move rfl) rfl ?_
      refine WD.tk 34 rfl (by kernel_rfl) rfl rfl (Yl.move rfl) rfl ?_
      refine WD.tk 35 rfl (by kernel_rfl) rfl rfl (Yl.sub rfl rfl (IntWalk.i64_in _ (by omega))) rfl ?_
      refine WD.tk 36 rfl (by kernel_rfl) rfl rfl (Yl.indexV (j := j) un156 sz122 rfl rfl (by omega) (by omega)) rfl ?_
      refine WD.tk 37 rfl (by kernel_rfl) rfl rfl (Yl.loadH on122 rfl (by repeat constructor) (ints_get _ _ j (by omega)) (by omega)) rfl ?_
      refine WD.one 13 (by kernel_rfl) ?_
      refine WO.callCI (xs := [.tmp 61, .tmp 66, .tmp 71]) (cap := []) rfl .no rfl rfl en131 (by repeat' constructor) (fun w hw => small64_any m _ rfl _ T.v1 T.v2 T.v3 hT4.1 hT4.2.1 hT4.2.2 w (hw.srcBS (A := []) hm) hw.left.here) rfl (fun _ => (holeI (by repeat constructor) (by first | exact hself | exact ⟨_, rfl⟩))) ?_
      rintro ⟨⟩ -
      refine WD.tk 19 rfl (by kernel_rfl) rfl rfl (Yl.add rfl rfl rfl) rfl ?_
      refine WD.one 31 (by kernel_rfl) ?_
      refine WO.callCI (xs := [.tmp 79, .tmp 84, .tmp 89]) (cap := []) rfl .no rfl rfl en131 (by repeat' constructor) (fun w hw => small64_any m _ rfl _ T.u1 T.u2 T.u3 hT3.1 hT3.2.1 hT3.2.2 w (hw.srcBS (A := []) hm) hw.left.here) rfl (fun _ => (holeI (by repeat constructor) (by first | exact hself | exact ⟨_, rfl⟩))) ?_
      rintro ⟨⟩ -
      refine WD.tk 32 rfl (by kernel_rfl) rfl rfl (Yl.add rfl rfl rfl) rfl ?_
      refine WD.tk 38 rfl (by kernel_rfl) rfl rfl (Yl.add rfl rfl rfl) rfl ?_
      refine WD.tk 39 rfl (by kernel_rfl) rfl rfl (Yl.indexV (j := 16 + j) un156 sz122 rfl rfl (by omega) (by omega)) rfl ?_
      refine WD.one 40 (by kernel_rfl) ?_
      refine WO.stoI rfl rfl .no (Sto.elem sz122 rfl rfl (by repeat constructor) rfl (by omega) (by rfl)) (holeI (by repeat constructor) (by first | exact hself | exact ⟨_, rfl⟩)) ?_
      refine WD.done (by kernel_rfl) ?_
      refine WC.region ?_
      refine WL.y (Yl.move rfl) rfl ?_
      refine WL.y (Yl.add rfl rfl (IntWalk.i64_in _ (by omega))) rfl ?_
      refine WL.y (Yl.assign rfl) rfl ?_
      refine WL.nil ?_
      rw [ints_set]
      exact ⟨rfl, j + 1, by omega, by omega, (by repeat' constructor), _, (by repeat' constructor)⟩
    · refine WC.exit ?_
      refine WC.seq ?_
      refine WC.region ?_
      have hj2 : j = 80 - 16 := by omega
      subst hj2
      obtain ⟨W, hW⟩ : ∃ W, exF .u64 64 T ws (80 - 16) = W := ⟨_, rfl⟩
      rw [hW] at hel ⊢
      refine WL.to (To.alloc zr196 rfl) rfl ?_
      intro b7
      refine WL.nil ?_
      refine WC.seq ?_
      refine WC.drawAny (Hs := []) mixed (by kernel_rfl) ⟨_, (by repeat' constructor)⟩ ?_
      refine WD.tk 0 rfl (by kernel_rfl) rfl rfl (Yl.sliceArr un196 sz122 (by decide) rfl) rfl ?_
      refine WD.tk 1 rfl (by kernel_rfl) rfl rfl (Yl.move rfl) rfl ?_
      refine WD.tk 2 rfl (by kernel_rfl) rfl rfl (Yl.nilCheck rfl) rfl ?_
      refine WD.tk 3 rfl (by kernel_rfl) rfl rfl (Yl.field fo180_0 rfl) rfl ?_
      refine WD.tk 4 rfl (by kernel_rfl) rfl rfl (Yl.loadS on156 rfl hm (by rfl)) rfl ?_
      refine WD.one 5 (by kernel_rfl) ?_
      refine WO.to rfl rfl .no (To.copy un156 sz122 rfl rfl (by repeat constructor) (Reads.of RdOf.own (by repeat constructor)) (ints_one _ _) (by rfl) (copy8 hH rfl)) rfl (fun _ => ⟨_, (by repeat' constructor)⟩) ?_
      rintro ⟨⟩
      refine WD.done (by kernel_rfl) ?_
      refine WC.seq ?_
      refine WC.seq ?_
      refine WC.region ?_
      refine WL.y (Yl.move rfl) rfl ?_
      refine WL.y (Yl.nilCheck rfl) rfl ?_
      refine WL.y (Yl.field fo180_1 rfl) rfl ?_
      refine WL.y (Yl.loadS on156 rfl hm (by rfl)) rfl ?_
      refine WL.y (Yl.len un156 rfl) rfl ?_
      refine WL.y (Yl.move rfl) rfl ?_
      refine WL.nil ?_
      refine WC.block ?_
      refine WC.loop (α := Nat) (fun j => [(0, .pointer (some ⟨m, 0, none⟩)), (4, .slice (some ⟨b22, 0, none⟩) 80 80), (7, .pointer (some ⟨b7, 0, none⟩)), (108, .slice ko 80 kc), (109, .int .i64 80), (110, .int .i64 (j : Int))]) (fun j => [blkR b7 196 (ints .u64 (rsF .u64 64 T ks W H j)), ownR (.slice (some ⟨b22, 0, none⟩) 80 80) 122 1 80 (ints .u64 W), ownR (.slice ho 8 hc) 122 1 8 (ints .u64 H)]) (fun j => j ≤ 80) (fun j => 80 - j) 0 (Nat.zero_le _) ⟨(by repeat' constructor), _, (by repeat' constructor)⟩ ?_
      intro j hj
      have hrl := rsF_len (k := .u64) (B := 64) (T := T) (ks := ks) (ws := W) hH j
      obtain ⟨x0, x1, x2, x3, x4, x5, x6, x7, hX⟩ := len8 hrl
      rw [hX]
      refine WC.seq ?_
      refine WC.region ?_
      refine WL.y (Yl.lss rfl rfl) rfl ?_
      refine WL.nil ?_
      refine WC.seq ?_
      refine WC.condD rfl (fun g111 => ?_) (fun g111 => ?_)
      · refine WC.skip ?_
        refine WC.seq ?_
        refine WC.block ?_
        refine WC.seq ?_
        refine WC.region ?_
        refine WL.y (Yl.move rfl) rfl ?_
        refine WL.y (Yl.index un156 sz122 rfl rfl (Reads.s hk) rfl (by omega)) rfl ?_
        refine WL.y (Yl.loadE on122 rfl (Reads.s hk) (ints_get _ ks j (by omega))) rfl ?_
        refine WL.y (Yl.assign rfl) rfl ?_
        refine WL.y (Yl.assign rfl) rfl ?_
        refine WL.nil ?_
        refine WC.seq ?_
        refine WC.drawRead mixed (by kernel_rfl) ?_
        refine WH.y (Yl.indexA (j := 0) un196 sz122 rfl rfl rfl (by omega)) rfl ?_
        refine WH.y (Yl.load on122 rfl (by repeat constructor) (by rfl)) rfl ?_
        refine WH.y (Yl.indexA (j := 1) un196 sz122 rfl rfl rfl (by omega)) rfl ?_
        refine WH.y (Yl.load on122 rfl (by repeat constructor) (by rfl)) rfl ?_
        refine WH.y (Yl.indexA (j := 2) un196 sz122 rfl rfl rfl (by omega)) rfl ?_
        refine WH.y (Yl.load on122 rfl (by repeat constructor) (by rfl)) rfl ?_
        refine WH.y (Yl.indexA (j := 4) un196 sz122 rfl rfl rfl (by omega)) rfl ?_
        refine WH.y (Yl.load on122 rfl (by repeat constructor) (by rfl)) rfl ?_
        refine WH.y (Yl.assign rfl) rfl ?_
        refine WH.y (Yl.assign rfl) rfl ?_
        refine WH.y (Yl.assign rfl) rfl ?_
        refine WH.y (Yl.assign rfl) rfl ?_
        refine WH.nil ?_
        refine WC.seq ?_
        refine WC.drawAny (Hs := [blkR b7 196 (ints .u64 [x0, x1, x2, x3, x4, x5, x6, x7]), ownR (.slice (some ⟨b22, 0, none⟩) 80 80) 122 1 80 (ints .u64 W)]) mixed (by kernel_rfl) ⟨_, (by repeat' constructor)⟩ ?_
        refine WD.tk 0 rfl (by kernel_rfl) rfl rfl (Yl.indexA (j := 7) un196 sz122 rfl rfl rfl (by omega)) rfl ?_
        refine WD.tk 1 rfl (by kernel_rfl) rfl rfl (Yl.load on122 rfl (by repeat constructor) (by rfl)) rfl ?_
        refine WD.tk 2 rfl (by kernel_rfl) rfl rfl (Yl.move rfl) rfl ?_
        refine WD.tk 3 rfl (by kernel_rfl) rfl rfl (Yl.move rfl) rfl ?_
        refine WD.tk 4 rfl (by kernel_rfl) rfl rfl (Yl.move rfl) rfl ?_
        refine WD.tk 5 rfl (by kernel_rfl) rfl rfl (Yl.nilCheck rfl) rfl ?_
        refine WD.tk 6 rfl (by kernel_rfl) rfl rfl (Yl.field fo180_3 rfl) rfl ?_
        refine WD.tk 7 rfl (by kernel_rfl) rfl rfl (Yl.field fo178_1 rfl) rfl ?_
        refine WD.tk 8 rfl (by kernel_rfl) rfl rfl (Yl.loadNS ag176 rfl hm (by rfl) (show _ = three T.e1 T.e2 T.e3 from rfl)) rfl ?_
        refine WD.tk 11 rfl (by kernel_rfl) rfl rfl (Yl.move rfl) rfl ?_
        refine WD.tk 12 rfl (by kernel_rfl) rfl rfl (Yl.indexA (j := 5) un196 sz122 rfl rfl rfl (by omega)) rfl ?_
        refine WD.tk 13 rfl (by kernel_rfl) rfl rfl (Yl.load on122 rfl (by repeat constructor) (by rfl)) rfl ?_
        refine WD.tk 14 rfl (by kernel_rfl) rfl rfl (Yl.and rfl rfl) rfl ?_
        refine WD.tk 15 rfl (by kernel_rfl) rfl rfl (Yl.move rfl) rfl ?_
        refine WD.tk 16 rfl (by kernel_rfl) rfl rfl (Yl.com rfl) rfl ?_
        refine WD.tk 17 rfl (by kernel_rfl) rfl rfl (Yl.indexA (j := 6) un196 sz122 rfl rfl rfl (by omega)) rfl ?_
        refine WD.tk 18 rfl (by kernel_rfl) rfl rfl (Yl.load on122 rfl (by repeat constructor) (by rfl)) rfl ?_
        refine WD.tk 19 rfl (by kernel_rfl) rfl rfl (Yl.and rfl rfl) rfl ?_
        refine WD.tk 20 rfl (by kernel_rfl) rfl rfl (Yl.xor rfl rfl) rfl ?_
        refine WD.tk 22 rfl (by kernel_rfl) rfl rfl (Yl.move rfl) rfl ?_
        refine WD.tk 24 rfl (by kernel_rfl) rfl rfl (Yl.move rfl) rfl ?_
        refine WD.tk 25 rfl (by kernel_rfl) rfl rfl (Yl.move rfl) rfl ?_
        refine WD.tk 26 rfl (by kernel_rfl) rfl rfl (Yl.index un156 sz122 rfl rfl (Reads.of RdOf.own (by repeat constructor)) rfl (by omega)) rfl ?_
        refine WD.tk 27 rfl (by kernel_rfl) rfl rfl (Yl.loadE on122 rfl (Reads.of RdOf.own (by repeat constructor)) (ints_get _ W j (by omega))) rfl ?_
        refine WD.one 9 (by kernel_rfl) ?_
        refine WO.callC (xs := [.tmp 125, .tmp 126, .tmp 131]) (cap := []) rfl .no rfl rfl en132 (by repeat' constructor) (fun w hw => big64_any m _ rfl x4 T.e1 T.e2 T.e3 hT2.1 hT2.2.1 hT2.2.2 w (hw.srcBS (A := []) hm) hw.left.here) rfl (fun _ => ⟨_, (by repeat' constructor)⟩) ?_
        rintro ⟨⟩ -
        refine WD.tk 10 rfl (by kernel_rfl) rfl rfl (Yl.add rfl rfl rfl) rfl ?_
        refine WD.tk 21 rfl (by kernel_rfl) rfl rfl (Yl.add rfl rfl rfl) rfl ?_
        refine WD.tk 23 rfl (by kernel_rfl) rfl rfl (Yl.add rfl rfl rfl) rfl ?_
        refine WD.tk 28 rfl (by kernel_rfl) rfl rfl (Yl.add rfl rfl rfl) rfl ?_
        refine WD.say (t := 151) (v' := .int .u64 (pF .u64 64 T x7 x4 x5 x6 (ks.getD j 0) (W.getD j 0))) rfl (by rfl) ?_
        refine WD.tk 29 rfl (by kernel_rfl) rfl rfl (Yl.assign rfl) rfl ?_
        refine WD.done (by kernel_rfl) ?_
        refine WC.seq ?_
        refine WC.region ?_
        refine WL.y (Yl.move rfl) rfl ?_
        refine WL.y (Yl.move rfl) rfl ?_
        refine WL.y (Yl.move rfl) rfl ?_
        refine WL.y (Yl.nilCheck rfl) rfl ?_
        refine WL.y (Yl.field fo180_3 rfl) rfl ?_
        refine WL.y (Yl.field fo178_0 rfl) rfl ?_
        refine WL.y (Yl.loadNS ag176 rfl hm (by rfl) (show _ = three T.a1 T.a2 T.a3 from rfl)) rfl ?_
        refine WL.callC (xs := [.tmp 152, .tmp 153, .tmp 158]) (cap := []) rfl rfl en132 (by repeat' constructor) (fun w hw => big64_any m _ rfl x0 T.a1 T.a2 T.a3 hT1.1 hT1.2.1 hT1.2.2 w (hw.srcBS (A := []) hm) hw.left.here) rfl ?_
        rintro ⟨⟩ -
        refine WL.y (Yl.move rfl) rfl ?_
        refine WL.y (Yl.move rfl) rfl ?_
        refine WL.y (Yl.and rfl rfl) rfl ?_
        refine WL.y (Yl.move rfl) rfl ?_
        refine WL.y (Yl.move rfl) rfl ?_
        refine WL.y (Yl.and rfl rfl) rfl ?_
        refine WL.y (Yl.xor rfl rfl) rfl ?_
        refine WL.y (Yl.move rfl) rfl ?_
        refine WL.y (Yl.move rfl) rfl ?_
        refine WL.y (Yl.and rfl rfl) rfl ?_
        refine WL.y (Yl.xor rfl rfl) rfl ?_
        refine WL.y (Yl.add rfl rfl rfl) rfl ?_
        refine WL.say (t := 171) (v' := .int .u64 (qF .u64 64 T x0 x1 x2)) rfl (by rfl) ?_
        refine WL.y (Yl.assign rfl) rfl ?_
        refine WL.nil ?_
        refine WC.region ?_
        obtain ⟨p, hp⟩ : ∃ p, pF .u64 64 T x7 x4 x5 x6 (ks.getD j 0) (W.getD j 0) = p := ⟨_, rfl⟩
        obtain ⟨q, hq⟩ : ∃ q, qF .u64 64 T x0 x1 x2 = q := ⟨_, rfl⟩
        rw [hp, hq]
        refine WL.y (Yl.move rfl) rfl ?_
        refine WL.y (Yl.move rfl) rfl ?_
        refine WL.y (Yl.add rfl rfl rfl) rfl ?_
        refine WL.y (Yl.move rfl) rfl ?_
        refine WL.y (Yl.move rfl) rfl ?_
        refine WL.y (Yl.move rfl) rfl ?_
        refine WL.y (Yl.indexA (j := 3) un196 sz122 rfl rfl rfl (by omega)) rfl ?_
        refine WL.y (Yl.load on122 rfl (by repeat constructor) (by rfl)) rfl ?_
        refine WL.y (Yl.move rfl) rfl ?_
        refine WL.y (Yl.add rfl rfl rfl) rfl ?_
        refine WL.y (Yl.move rfl) rfl ?_
        refine WL.y (Yl.indexA (j := 5) un196 sz122 rfl rfl rfl (by omega)) rfl ?_
        refine WL.y (Yl.load on122 rfl (by repeat constructor) (by rfl)) rfl ?_
        refine WL.y (Yl.indexA (j := 6) un196 sz122 rfl rfl rfl (by omega)) rfl ?_
        refine WL.y (Yl.load on122 rfl (by repeat constructor) (by rfl)) rfl ?_
        refine WL.y (Yl.build rfl (cs := ints .u64 [IntKind.u64.wrap (p + q), x0, x1, x2, IntKind.u64.wrap (x3 + p), x4, x5, x6]) (fun _ => by kernel_rfl)) rfl ?_
        refine WL.sto (Sto.agg sz196 rfl rfl (by repeat constructor) (ints_one _ _) rfl (by rfl) (put8 rfl)) (fun _ h => nomatch h) ?_
        refine WL.nil ?_
        refine WC.region ?_
        refine WL.y (Yl.add rfl rfl (IntWalk.i64_in _ (by omega))) rfl ?_
        refine WL.y (Yl.move rfl) rfl ?_
        refine WL.nil ?_
        have hn : rsF .u64 64 T ks W H (j + 1) = [IntKind.u64.wrap (p + q), x0, x1, x2, IntKind.u64.wrap (x3 + p), x4, x5, x6] := by
          show rdF .u64 64 T (rsF .u64 64 T ks W H j) (ks.getD j 0) (W.getD j 0) = _
          rw [hX, ← hp, ← hq]
          rfl
        refine ⟨rfl, j + 1, by omega, by omega, ?_⟩
        rw [hn]
        exact ⟨(by repeat' constructor), _, (by repeat' constructor)⟩
      · refine WC.exit ?_
        refine WC.seq ?_
        refine WC.region ?_
        refine WL.y (Yl.move rfl) rfl ?_
        refine WL.nil ?_
        refine WC.block ?_
        have hj2 : j = 80 := by omega
        subst hj2
        rw [← hX]
        obtain ⟨X, hXX⟩ : ∃ X, rsF .u64 64 T ks W H 80 = X := ⟨_, rfl⟩
        rw [hXX] at hrl ⊢
        refine WC.loop (α := Nat) (fun i => [(0, .pointer (some ⟨m, 0, none⟩)), (7, .pointer (some ⟨b7, 0, none⟩)), (189, .int .i64 (i : Int))]) (fun i => [ownR (.slice ho 8 hc) 122 1 8 (ints .u64 (adF .u64 H X i)), blkR b7 196 (ints .u64 X)]) (fun i => i ≤ 8) (fun i => 8 - i) 0 (Nat.zero_le _) ⟨(by repeat' constructor), _, (by repeat' constructor)⟩ ?_
        intro i hi
        have hal := adF_len .u64 H X i
        rw [hH] at hal
        refine WC.seq ?_
        refine WC.region ?_
        refine WL.y (Yl.lss rfl rfl) rfl ?_
        refine WL.nil ?_
        refine WC.seq ?_
        refine WC.condD rfl (fun g190 => ?_) (fun g190 => ?_)
        · refine WC.skip ?_
          refine WC.seq ?_
          refine WC.block ?_
          refine WC.seq ?_
          refine WC.region ?_
          refine WL.y (Yl.move rfl) rfl ?_
          refine WL.y (Yl.assign rfl) rfl ?_
          refine WL.nil ?_
          refine WC.drawTail 12 mixed (by kernel_rfl) ?_
          refine WH.y (Yl.move rfl) rfl ?_
          refine WH.y (Yl.nilCheck rfl) rfl ?_
          refine WH.y (Yl.field fo180_0 rfl) rfl ?_
          refine WH.y (Yl.loadS on156 rfl hm (by rfl)) rfl ?_
          refine WH.y (Yl.move rfl) rfl ?_
          refine WH.y (Yl.index un156 sz122 rfl rfl (Reads.of RdOf.own (by repeat constructor)) rfl (by omega)) rfl ?_
          refine WH.y (Yl.loadE on122 rfl (Reads.of RdOf.own (by repeat constructor)) (ints_get _ _ i (by omega))) rfl ?_
          refine WH.y (Yl.move rfl) rfl ?_
          refine WH.y (Yl.indexA un196 sz122 rfl rfl rfl (by omega)) rfl ?_
          refine WH.y (Yl.load on122 rfl (by repeat constructor) (show _ = some (.int .u64 (X.getD i 0)) by rw [show 0 + i * 1 = i by omega]; exact ints_get _ X i (by omega))) rfl ?_
          refine WH.y (Yl.add rfl rfl rfl) rfl ?_
          refine WH.y (Yl.index un156 sz122 rfl rfl (Reads.of RdOf.own (by repeat constructor)) rfl (by omega)) rfl ?_
          refine WH.nil ?_
          refine WP.sto (Sto.elem sz122 rfl rfl (by repeat constructor) rfl (by omega) (by rfl)) (fun _ h => nomatch h) ?_
          refine WP.nil ?_
          refine WC.region ?_
          refine WL.y (Yl.add rfl rfl (IntWalk.i64_in _ (by omega))) rfl ?_
          refine WL.y (Yl.move rfl) rfl ?_
          refine WL.nil ?_
          rw [ints_set]
          exact ⟨rfl, i + 1, by omega, by omega, (by repeat' constructor), _, (by repeat' constructor)⟩
        · refine WC.exit ?_
          repeat (with_reducible (first | refine peelT ?_ | refine peelB ?_ | refine peelTX ?_ | refine peelBX ?_ | refine peelBN ?_ | refine peelBO rfl ?_))
          have hi2 : i = 8 := by omega
          subst hi2
          refine ret0 (.inl rfl) Tryz.results118 fun w' hh => ⟨(), trivial, rfl, ?_⟩
          have e : blockF .u64 64 8 80 T ks H bs = adF .u64 H X 8 := by unfold blockF; rw [hws, hW, hXX]
          rw [e]
          exact hh.sub (by repeat' constructor)
end Go.Proofs.YtcplbkbimpiioaaGreatDoor

namespace Go.Proofs.YtcplbkbimpiioaaGreatDoor
open Go Go.RowKit

def cutF (x : Int) (bt : Nat) : Int := if bt = 64 then x else x % 2 ^ bt
def rturn (x : Int) (n bt : Nat) : Int := IntKind.u64.wrap (x / 2 ^ n + cutF (IntKind.u64.wrap (x * 2 ^ (bt - n))) bt)
def rmix (x : Int) (a b c bt : Nat) (shift : Bool) : Int := bits .xor .u64 (bits .xor .u64 (rturn x a bt) (rturn x b bt)) (if shift then x / 2 ^ c else rturn x c bt)
def fourF (i x : Int) (bt : Nat) : Int :=
  if bt = 32 then (if i = 0 then rmix x 2 13 22 32 false else if i = 1 then rmix x 6 11 25 32 false else if i = 2 then rmix x 7 18 3 32 true else rmix x 17 19 10 32 true)
  else (if i = 0 then rmix x 28 34 39 64 false else if i = 1 then rmix x 14 18 41 64 false else if i = 2 then rmix x 1 8 7 64 true else rmix x 19 61 6 64 true)

def W64 (x : Int) : Prop := 0 ≤ x ∧ x < 18446744073709551616
theorem u64_in' {n : Int} (h : W64 n) : IntKind.u64.wrap n = n := by rw [IntKind.wrap_u64]; unfold W64 at h; omega
theorem u64_wrap (n : Int) : W64 (IntKind.u64.wrap n) := by rw [IntKind.wrap_u64]; unfold W64; omega
theorem pow_pos (n : Nat) : (0 : Int) < 2 ^ n := Int.pow_pos (by decide)
theorem u64_quo {x y : Int} (h : W64 x) (hy : 0 < y) : IntKind.u64.wrap (x.tdiv y) = x / y := by
  rw [Int.tdiv_eq_ediv_of_nonneg h.1]
  have h1 : 0 ≤ x / y := Int.ediv_nonneg h.1 (by omega)
  have h2 : x / y ≤ x := Int.ediv_le_self _ h.1
  exact u64_in' ⟨h1, by have := h.2; omega⟩
theorem pow_le {j : Nat} (h : j ≤ 63) : (2 : Int) ^ j ≤ 9223372036854775808 := by
  have := Nat.pow_le_pow_right (n := 2) (by decide) h
  have e : ((2 ^ j : Nat) : Int) = (2 : Int) ^ j := by simp
  have e2 : (2 : Nat) ^ 63 = 9223372036854775808 := by decide
  omega

theorem power_any (n : Nat) (hn : n ≤ 63) (w : World) (hw : OK w (fpL []) [] w) : Fn Tryz.prog 93 [.int .i64 (n : Int)] [] w (fun _ : Unit => True) (fun _ => .int .u64 (2 ^ n)) (fun _ => []) := by
  refine enterF Tryz.func93 rfl Tryz.ntmps93 rfl hw ?_
  refine WC.seq ?_
  refine WC.region ?_
  refine WL.y (Yl.assign rfl) rfl ?_
  refine WL.nil ?_
  refine WC.seq ?_
  refine WC.region ?_
  refine WL.y (Yl.assign rfl) rfl ?_
  refine WL.nil ?_
  refine WC.seq ?_
  refine WC.seq ?_
  refine WC.region ?_
  refine WL.y (Yl.assign rfl) rfl ?_
  refine WL.nil ?_
  refine WC.block ?_
  refine WC.loop (α := Nat) (fun j => [(0, .int .i64 (n : Int)), (3, .int .u64 (2 ^ j)), (4, .int .i64 (j : Int))]) (fun _ => []) (fun j => j ≤ n) (fun j => n - j) 0 (Nat.zero_le _) ⟨(by repeat' constructor), _, (by repeat' constructor)⟩ ?_
  intro j hj
  refine WC.seq ?_
  refine WC.seq ?_
  refine WC.region ?_
  refine WL.y (Yl.move rfl) rfl ?_
  refine WL.y (Yl.move rfl) rfl ?_
  refine WL.y (Yl.lss rfl rfl) rfl ?_
  refine WL.nil ?_
  refine WC.condD rfl (fun g7 => ?_) (fun g7 => ?_)
  · refine WC.skip ?_
    refine WC.seq ?_
    refine WC.block ?_
    refine WC.region ?_
    refine WL.y (Yl.move rfl) rfl ?_
    refine WL.y (Yl.mul rfl rfl rfl) rfl ?_
    refine WL.say (t := 11) (v' := .int .u64 (2 ^ (j + 1))) rfl (by (have h1 := pow_pos j; have h2 := pow_le (j := j + 1) (by omega); rw [Int.pow_succ] at h2 ⊢; rw [Int.mul_comm, u64_in' ⟨by omega, by omega⟩])) ?_
    refine WL.y (Yl.assign rfl) rfl ?_
    refine WL.nil ?_
    refine WC.region ?_
    refine WL.y (Yl.move rfl) rfl ?_
    refine WL.y (Yl.add rfl rfl (IntWalk.i64_in _ (by omega))) rfl ?_
    refine WL.y (Yl.assign rfl) rfl ?_
    refine WL.nil ?_
    exact ⟨rfl, j + 1, by omega, by omega, (by repeat' constructor), _, (by repeat' constructor)⟩
  · refine WC.exit ?_
    refine WC.seq ?_
    refine WC.region ?_
    refine WL.y (Yl.move rfl) rfl ?_
    refine WL.y (Yl.assign rfl) rfl ?_
    refine WL.nil ?_
    refine WC.ret ?_
    repeat (with_reducible (first | refine peelT ?_ | refine peelB ?_ | refine peelTX ?_ | refine peelBX ?_ | refine peelBN ?_ | refine peelBO rfl ?_))
    have hj2 : j = n := by omega
    subst hj2
    exact ret1 (.inr rfl) Tryz.results93 rfl fun w' h => ⟨(), trivial, rfl, h.sub (by repeat' constructor)⟩

theorem cut_any (x : Int) (hx : 0 ≤ x) (bt : Nat) (hb : bt ≤ 64) (w : World) (hw : OK w (fpL []) [] w) : Fn Tryz.prog 95 [.int .u64 x, .int .i64 (bt : Int)] [] w (fun _ : Unit => True) (fun _ => .int .u64 (cutF x bt)) (fun _ => []) := by
  refine enterF Tryz.func95 rfl Tryz.ntmps95 rfl hw ?_
  refine WC.seq ?_
  refine WC.region ?_
  refine WL.y (Yl.assign rfl) rfl ?_
  refine WL.nil ?_
  refine WC.seq ?_
  refine WC.seq ?_
  refine WC.region ?_
  refine WL.y (Yl.move rfl) rfl ?_
  refine WL.y (Yl.eql rfl rfl) rfl ?_
  refine WL.nil ?_
  refine WC.condD rfl (fun g6 => ?_) (fun g6 => ?_)
  · refine WC.seq ?_
    refine WC.region ?_
    refine WL.y (Yl.move rfl) rfl ?_
    refine WL.y (Yl.assign rfl) rfl ?_
    refine WL.nil ?_
    refine WC.ret ?_
    repeat (with_reducible (first | refine peelT ?_ | refine peelB ?_ | refine peelTX ?_ | refine peelBX ?_ | refine peelBN ?_ | refine peelBO rfl ?_))
    have e : cutF x bt = x := by unfold cutF; rw [if_pos (by omega)]
    rw [e]
    exact ret1 (.inr rfl) Tryz.results95 rfl fun w' h => ⟨(), trivial, rfl, h.sub (by repeat' constructor)⟩
  · refine WC.skip ?_
    refine WC.seq ?_
    refine WC.region ?_
    refine WL.y (Yl.move rfl) rfl ?_
    refine WL.y (Yl.move rfl) rfl ?_
    refine WL.callC (xs := [.tmp 9]) (cap := []) rfl rfl en93 (by repeat' constructor) (fun w hw => power_any bt (by omega) w hw.left.here) rfl ?_
    rintro ⟨⟩ -
    refine WL.y (Yl.rem rfl rfl (Int.ne_of_gt (pow_pos bt)) (Int.tmod_eq_emod_of_nonneg hx)) rfl ?_
    refine WL.y (Yl.assign rfl) rfl ?_
    refine WL.nil ?_
    refine WC.ret ?_
    repeat (with_reducible (first | refine peelT ?_ | refine peelB ?_ | refine peelTX ?_ | refine peelBX ?_ | refine peelBN ?_ | refine peelBO rfl ?_))
    have e : cutF x bt = x % 2 ^ bt := by unfold cutF; rw [if_neg (by omega)]
    rw [e]
    exact ret1 (.inr rfl) Tryz.results95 rfl fun w' h => ⟨(), trivial, rfl, h.sub (by repeat' constructor)⟩

theorem rturn_any (x : Int) (hx : W64 x) (n bt : Nat) (hn : 1 ≤ n ∧ n ≤ 63) (hb : n ≤ bt ∧ bt ≤ 64) (w : World) (hw : OK w (fpL []) [] w) : Fn Tryz.prog 133 [.int .u64 x, .int .i64 (n : Int), .int .i64 (bt : Int)] [] w (fun _ : Unit => True) (fun _ => .int .u64 (rturn x n bt)) (fun _ => []) := by
  refine enterF Tryz.func133 rfl Tryz.ntmps133 rfl hw ?_
  refine WC.seq ?_
  refine WC.region ?_
  refine WL.y (Yl.assign rfl) rfl ?_
  refine WL.nil ?_
  refine WC.seq ?_
  refine WC.drawAny (Hs := []) mixed (by kernel_rfl) ⟨_, (by repeat' constructor)⟩ ?_
  refine WD.tk 0 rfl (by kernel_rfl) rfl rfl (Yl.move rfl) rfl ?_
  refine WD.tk 1 rfl (by kernel_rfl) rfl rfl (Yl.move rfl) rfl ?_
  refine WD.tk 4 rfl (by kernel_rfl) rfl rfl (Yl.move rfl) rfl ?_
  refine WD.tk 5 rfl (by kernel_rfl) rfl rfl (Yl.move rfl) rfl ?_
  refine WD.tk 6 rfl (by kernel_rfl) rfl rfl (Yl.move rfl) rfl ?_
  refine WD.tk 7 rfl (by kernel_rfl) rfl rfl (Yl.sub rfl rfl (IntWalk.i64_in _ (by omega))) rfl ?_
  refine WD.say (t := 14) (v' := .int .i64 ((bt - n : Nat) : Int)) rfl (by (refine congrArg _ ?_; omega)) ?_
  refine WD.tk 10 rfl (by kernel_rfl) rfl rfl (Yl.move rfl) rfl ?_
  refine WD.one 2 (by kernel_rfl) ?_
  refine WO.callC (xs := [.tmp 8]) (cap := []) rfl .no rfl rfl en93 (by repeat' constructor) (fun w hw => power_any n hn.2 w hw.left.here) rfl (fun _ => ⟨_, (by repeat' constructor)⟩) ?_
  rintro ⟨⟩ -
  refine WD.tk 3 rfl (by kernel_rfl) rfl rfl (Yl.quo rfl rfl (Int.ne_of_gt (pow_pos n)) (u64_quo hx (pow_pos n))) rfl ?_
  refine WD.one 8 (by kernel_rfl) ?_
  refine WO.callC (xs := [.tmp 14]) (cap := []) rfl .no rfl rfl en93 (by repeat' constructor) (fun w hw => power_any (bt - n) (by omega) w hw.left.here) rfl (fun _ => ⟨_, (by repeat' constructor)⟩) ?_
  rintro ⟨⟩ -
  refine WD.tk 9 rfl (by kernel_rfl) rfl rfl (Yl.mul rfl rfl rfl) rfl ?_
  refine WD.one 11 (by kernel_rfl) ?_
  refine WO.callC (xs := [.tmp 16, .tmp 17]) (cap := []) rfl .no rfl rfl en95 (by repeat' constructor) (fun w hw => cut_any _ (u64_wrap _).1 bt hb.2 w hw.left.here) rfl (fun _ => ⟨_, (by repeat' constructor)⟩) ?_
  rintro ⟨⟩ -
  refine WD.tk 12 rfl (by kernel_rfl) rfl rfl (Yl.add rfl rfl rfl) rfl ?_
  refine WD.tk 13 rfl (by kernel_rfl) rfl rfl (Yl.assign rfl) rfl ?_
  refine WD.done (by kernel_rfl) ?_
  refine WC.ret ?_
  repeat (with_reducible (first | refine peelT ?_ | refine peelB ?_ | refine peelTX ?_ | refine peelBX ?_ | refine peelBN ?_ | refine peelBO rfl ?_))
  exact ret1 (.inr rfl) Tryz.results133 rfl fun w' h => ⟨(), trivial, rfl, h.sub (by repeat' constructor)⟩

theorem rmix_any (x : Int) (hx : W64 x) (a b c bt : Nat) (sh : Bool) (ha : 1 ≤ a ∧ a ≤ 63 ∧ a ≤ bt) (hb : 1 ≤ b ∧ b ≤ 63 ∧ b ≤ bt) (hc : 1 ≤ c ∧ c ≤ 63 ∧ c ≤ bt) (hbt : bt ≤ 64) (w : World) (hw : OK w (fpL []) [] w) :
    Fn Tryz.prog 120 [.int .u64 x, .int .i64 (a : Int), .int .i64 (b : Int), .int .i64 (c : Int), .int .i64 (bt : Int), .bool sh] [] w (fun _ : Unit => True) (fun _ => .int .u64 (rmix x a b c bt sh)) (fun _ => []) := by
  refine enterF Tryz.func120 rfl Tryz.ntmps120 rfl hw ?_
  refine WC.seq ?_
  refine WC.region ?_
  refine WL.y (Yl.assign rfl) rfl ?_
  refine WL.nil ?_
  refine WC.seq ?_
  refine WC.region ?_
  refine WL.y (Yl.move rfl) rfl ?_
  refine WL.y (Yl.move rfl) rfl ?_
  refine WL.callC (xs := [.tmp 15]) (cap := []) rfl rfl en93 (by repeat' constructor) (fun w hw => power_any c hc.2.1 w hw.left.here) rfl ?_
  rintro ⟨⟩ -
  refine WL.y (Yl.quo rfl rfl (Int.ne_of_gt (pow_pos c)) (u64_quo hx (pow_pos c))) rfl ?_
  refine WL.y (Yl.assign rfl) rfl ?_
  refine WL.nil ?_
  refine WC.seq ?_
  refine WC.seq ?_
  refine WC.region ?_
  refine WL.y (Yl.move rfl) rfl ?_
  refine WL.y (Yl.not rfl) rfl ?_
  refine WL.nil ?_
  refine WC.cond rfl (fun g19 => ?_) (fun g19 => ?_)
  · refine WC.region ?_
    refine WL.y (Yl.move rfl) rfl ?_
    refine WL.y (Yl.move rfl) rfl ?_
    refine WL.y (Yl.move rfl) rfl ?_
    refine WL.callC (xs := [.tmp 20, .tmp 21, .tmp 22]) (cap := []) rfl rfl en133 (by repeat' constructor) (fun w hw => rturn_any x hx c bt ⟨hc.1, hc.2.1⟩ ⟨hc.2.2, hbt⟩ w hw.left.here) rfl ?_
    rintro ⟨⟩ -
    refine WL.y (Yl.assign rfl) rfl ?_
    refine WL.nil ?_
    refine WC.seq ?_
    refine WC.region ?_
    refine WL.y (Yl.move rfl) rfl ?_
    refine WL.y (Yl.move rfl) rfl ?_
    refine WL.y (Yl.move rfl) rfl ?_
    refine WL.callC (xs := [.tmp 24, .tmp 25, .tmp 26]) (cap := []) rfl rfl en133 (by repeat' constructor) (fun w hw => rturn_any x hx a bt ⟨ha.1, ha.2.1⟩ ⟨ha.2.2, hbt⟩ w hw.left.here) rfl ?_
    rintro ⟨⟩ -
    refine WL.y (Yl.move rfl) rfl ?_
    refine WL.y (Yl.move rfl) rfl ?_
    refine WL.y (Yl.move rfl) rfl ?_
    refine WL.callC (xs := [.tmp 28, .tmp 29, .tmp 30]) (cap := []) rfl rfl en133 (by repeat' constructor) (fun w hw => rturn_any x hx b bt ⟨hb.1, hb.2.1⟩ ⟨hb.2.2, hbt⟩ w hw.left.here) rfl ?_
    rintro ⟨⟩ -
    refine WL.y (Yl.xor rfl rfl) rfl ?_
    refine WL.y (Yl.move rfl) rfl ?_
    refine WL.y (Yl.xor rfl rfl) rfl ?_
    refine WL.y (Yl.assign rfl) rfl ?_
    refine WL.nil ?_
    refine WC.ret ?_
    repeat (with_reducible (first | refine peelT ?_ | refine peelB ?_ | refine peelTX ?_ | refine peelBX ?_ | refine peelBN ?_ | refine peelBO rfl ?_))
    have hs : sh = false := by simpa using g19
    subst hs
    exact ret1 (.inr rfl) Tryz.results120 rfl fun w' h => ⟨(), trivial, rfl, h.sub (by repeat' constructor)⟩
  · refine WC.skip ?_
    refine WC.seq ?_
    refine WC.region ?_
    refine WL.y (Yl.move rfl) rfl ?_
    refine WL.y (Yl.move rfl) rfl ?_
    refine WL.y (Yl.move rfl) rfl ?_
    refine WL.callC (xs := [.tmp 24, .tmp 25, .tmp 26]) (cap := []) rfl rfl en133 (by repeat' constructor) (fun w hw => rturn_any x hx a bt ⟨ha.1, ha.2.1⟩ ⟨ha.2.2, hbt⟩ w hw.left.here) rfl ?_
    rintro ⟨⟩ -
    refine WL.y (Yl.move rfl) rfl ?_
    refine WL.y (Yl.move rfl) rfl ?_
    refine WL.y (Yl.move rfl) rfl ?_
    refine WL.callC (xs := [.tmp 28, .tmp 29, .tmp 30]) (cap := []) rfl rfl en133 (by repeat' constructor) (fun w hw => rturn_any x hx b bt ⟨hb.1, hb.2.1⟩ ⟨hb.2.2, hbt⟩ w hw.left.here) rfl ?_
    rintro ⟨⟩ -
    refine WL.y (Yl.xor rfl rfl) rfl ?_
    refine WL.y (Yl.move rfl) rfl ?_
    refine WL.y (Yl.xor rfl rfl) rfl ?_
    refine WL.y (Yl.assign rfl) rfl ?_
    refine WL.nil ?_
    refine WC.ret ?_
    repeat (with_reducible (first | refine peelT ?_ | refine peelB ?_ | refine peelTX ?_ | refine peelBX ?_ | refine peelBN ?_ | refine peelBO rfl ?_))
    have hs : sh = true := by simpa using g19
    subst hs
    exact ret1 (.inr rfl) Tryz.results120 rfl fun w' h => ⟨(), trivial, rfl, h.sub (by repeat' constructor)⟩

theorem four_any (i x : Int) (hx : W64 x) (bt : Nat) (hbt : bt = 32 ∨ bt = 64) (w : World) (hw : OK w (fpL []) [] w) :
    Fn Tryz.prog 96 [.int .i64 i, .int .u64 x, .int .i64 (bt : Int)] [] w (fun _ : Unit => True) (fun _ => .int .u64 (fourF i x bt)) (fun _ => []) := by
  refine enterF Tryz.func96 rfl Tryz.ntmps96 rfl hw ?_
  refine WC.seq ?_
  refine WC.region ?_
  refine WL.y (Yl.assign rfl) rfl ?_
  refine WL.nil ?_
  refine WC.seq ?_
  refine WC.seq ?_
  refine WC.region ?_
  refine WL.y (Yl.move rfl) rfl ?_
  refine WL.y (Yl.eql rfl rfl) rfl ?_
  refine WL.nil ?_
  refine WC.condD rfl (fun g8 => ?_) (fun g8 => ?_)
  · refine WC.seq ?_
    refine WC.seq ?_
    refine WC.region ?_
    refine WL.y (Yl.move rfl) rfl ?_
    refine WL.nil ?_
    refine WC.block ?_
    refine WC.seq ?_
    refine WC.region ?_
    refine WL.y (Yl.eql rfl rfl) rfl ?_
    refine WL.y (Yl.assign rfl) rfl ?_
    refine WL.nil ?_
    refine WC.condD rfl (fun g10 => ?_) (fun g10 => ?_)
    · refine WC.seq ?_
      refine WC.region ?_
      refine WL.y (Yl.move rfl) rfl ?_
      refine WL.callC (xs := [.tmp 12, _, _, _, _, _]) (cap := []) rfl rfl en120 (by repeat' constructor) (fun w hw => rmix_any x hx 2 13 22 32 false (by omega) (by omega) (by omega) (by omega) w hw.left.here) rfl ?_
      rintro ⟨⟩ -
      refine WL.y (Yl.assign rfl) rfl ?_
      refine WL.nil ?_
      refine WC.ret ?_
      repeat (with_reducible (first | refine peelT ?_ | refine peelB ?_ | refine peelTX ?_ | refine peelBX ?_ | refine peelBN ?_ | refine peelBO rfl ?_))
      refine ret1 (.inr rfl) Tryz.results96 rfl fun w' h => ⟨(), trivial, ?_, h.sub (by repeat' constructor)⟩
      unfold fourF
      rcases hbt with rfl | rfl
      all_goals first | (exfalso; omega) | simp [*]
    · refine WC.seq ?_
      refine WC.region ?_
      refine WL.y (Yl.eql rfl rfl) rfl ?_
      refine WL.y (Yl.assign rfl) rfl ?_
      refine WL.nil ?_
      refine WC.condD rfl (fun g14 => ?_) (fun g14 => ?_)
      · refine WC.seq ?_
        refine WC.region ?_
        refine WL.y (Yl.move rfl) rfl ?_
        refine WL.callC (xs := [.tmp 16, _, _, _, _, _]) (cap := []) rfl rfl en120 (by repeat' constructor) (fun w hw => rmix_any x hx 6 11 25 32 false (by omega) (by omega) (by omega) (by omega) w hw.left.here) rfl ?_
        rintro ⟨⟩ -
        refine WL.y (Yl.assign rfl) rfl ?_
        refine WL.nil ?_
        refine WC.ret ?_
        repeat (with_reducible (first | refine peelT ?_ | refine peelB ?_ | refine peelTX ?_ | refine peelBX ?_ | refine peelBN ?_ | refine peelBO rfl ?_))
        refine ret1 (.inr rfl) Tryz.results96 rfl fun w' h => ⟨(), trivial, ?_, h.sub (by repeat' constructor)⟩
        unfold fourF
        rcases hbt with rfl | rfl
        all_goals first | (exfalso; omega) | simp [*]
      · refine WC.seq ?_
        refine WC.region ?_
        refine WL.y (Yl.eql rfl rfl) rfl ?_
        refine WL.y (Yl.assign rfl) rfl ?_
        refine WL.nil ?_
        refine WC.condD rfl (fun g18 => ?_) (fun g18 => ?_)
        · refine WC.seq ?_
          refine WC.region ?_
          refine WL.y (Yl.move rfl) rfl ?_
          refine WL.callC (xs := [.tmp 20, _, _, _, _, _]) (cap := []) rfl rfl en120 (by repeat' constructor) (fun w hw => rmix_any x hx 7 18 3 32 true (by omega) (by omega) (by omega) (by omega) w hw.left.here) rfl ?_
          rintro ⟨⟩ -
          refine WL.y (Yl.assign rfl) rfl ?_
          refine WL.nil ?_
          refine WC.ret ?_
          repeat (with_reducible (first | refine peelT ?_ | refine peelB ?_ | refine peelTX ?_ | refine peelBX ?_ | refine peelBN ?_ | refine peelBO rfl ?_))
          refine ret1 (.inr rfl) Tryz.results96 rfl fun w' h => ⟨(), trivial, ?_, h.sub (by repeat' constructor)⟩
          unfold fourF
          rcases hbt with rfl | rfl
          all_goals first | (exfalso; omega) | simp [*]
        · refine WC.skip ?_
          refine WC.seq ?_
          refine WC.region ?_
          refine WL.y (Yl.move rfl) rfl ?_
          refine WL.callC (xs := [.tmp 22, _, _, _, _, _]) (cap := []) rfl rfl en120 (by repeat' constructor) (fun w hw => rmix_any x hx 17 19 10 32 true (by omega) (by omega) (by omega) (by omega) w hw.left.here) rfl ?_
          rintro ⟨⟩ -
          refine WL.y (Yl.assign rfl) rfl ?_
          refine WL.nil ?_
          refine WC.ret ?_
          repeat (with_reducible (first | refine peelT ?_ | refine peelB ?_ | refine peelTX ?_ | refine peelBX ?_ | refine peelBN ?_ | refine peelBO rfl ?_))
          refine ret1 (.inr rfl) Tryz.results96 rfl fun w' h => ⟨(), trivial, ?_, h.sub (by repeat' constructor)⟩
          unfold fourF
          rcases hbt with rfl | rfl
          all_goals first | (exfalso; omega) | simp [*]
  · refine WC.skip ?_
    refine WC.seq ?_
    refine WC.seq ?_
    refine WC.region ?_
    refine WL.y (Yl.move rfl) rfl ?_
    refine WL.nil ?_
    refine WC.block ?_
    refine WC.seq ?_
    refine WC.region ?_
    refine WL.y (Yl.eql rfl rfl) rfl ?_
    refine WL.y (Yl.assign rfl) rfl ?_
    refine WL.nil ?_
    refine WC.condD rfl (fun g25 => ?_) (fun g25 => ?_)
    · refine WC.seq ?_
      refine WC.region ?_
      refine WL.y (Yl.move rfl) rfl ?_
      refine WL.callC (xs := [.tmp 27, _, _, _, _, _]) (cap := []) rfl rfl en120 (by repeat' constructor) (fun w hw => rmix_any x hx 28 34 39 64 false (by omega) (by omega) (by omega) (by omega) w hw.left.here) rfl ?_
      rintro ⟨⟩ -
      refine WL.y (Yl.assign rfl) rfl ?_
      refine WL.nil ?_
      refine WC.ret ?_
      repeat (with_reducible (first | refine peelT ?_ | refine peelB ?_ | refine peelTX ?_ | refine peelBX ?_ | refine peelBN ?_ | refine peelBO rfl ?_))
      refine ret1 (.inr rfl) Tryz.results96 rfl fun w' h => ⟨(), trivial, ?_, h.sub (by repeat' constructor)⟩
      unfold fourF
      rcases hbt with rfl | rfl
      all_goals first | (exfalso; omega) | simp [*]
    · refine WC.seq ?_
      refine WC.region ?_
      refine WL.y (Yl.eql rfl rfl) rfl ?_
      refine WL.y (Yl.assign rfl) rfl ?_
      refine WL.nil ?_
      refine WC.condD rfl (fun g29 => ?_) (fun g29 => ?_)
      · refine WC.seq ?_
        refine WC.region ?_
        refine WL.y (Yl.move rfl) rfl ?_
        refine WL.callC (xs := [.tmp 31, _, _, _, _, _]) (cap := []) rfl rfl en120 (by repeat' constructor) (fun w hw => rmix_any x hx 14 18 41 64 false (by omega) (by omega) (by omega) (by omega) w hw.left.here) rfl ?_
        rintro ⟨⟩ -
        refine WL.y (Yl.assign rfl) rfl ?_
        refine WL.nil ?_
        refine WC.ret ?_
        repeat (with_reducible (first | refine peelT ?_ | refine peelB ?_ | refine peelTX ?_ | refine peelBX ?_ | refine peelBN ?_ | refine peelBO rfl ?_))
        refine ret1 (.inr rfl) Tryz.results96 rfl fun w' h => ⟨(), trivial, ?_, h.sub (by repeat' constructor)⟩
        unfold fourF
        rcases hbt with rfl | rfl
        all_goals first | (exfalso; omega) | simp [*]
      · refine WC.seq ?_
        refine WC.region ?_
        refine WL.y (Yl.eql rfl rfl) rfl ?_
        refine WL.y (Yl.assign rfl) rfl ?_
        refine WL.nil ?_
        refine WC.condD rfl (fun g33 => ?_) (fun g33 => ?_)
        · refine WC.seq ?_
          refine WC.region ?_
          refine WL.y (Yl.move rfl) rfl ?_
          refine WL.callC (xs := [.tmp 35, _, _, _, _, _]) (cap := []) rfl rfl en120 (by repeat' constructor) (fun w hw => rmix_any x hx 1 8 7 64 true (by omega) (by omega) (by omega) (by omega) w hw.left.here) rfl ?_
          rintro ⟨⟩ -
          refine WL.y (Yl.assign rfl) rfl ?_
          refine WL.nil ?_
          refine WC.ret ?_
          repeat (with_reducible (first | refine peelT ?_ | refine peelB ?_ | refine peelTX ?_ | refine peelBX ?_ | refine peelBN ?_ | refine peelBO rfl ?_))
          refine ret1 (.inr rfl) Tryz.results96 rfl fun w' h => ⟨(), trivial, ?_, h.sub (by repeat' constructor)⟩
          unfold fourF
          rcases hbt with rfl | rfl
          all_goals first | (exfalso; omega) | simp [*]
        · refine WC.skip ?_
          refine WC.seq ?_
          refine WC.region ?_
          refine WL.y (Yl.move rfl) rfl ?_
          refine WL.callC (xs := [.tmp 37, _, _, _, _, _]) (cap := []) rfl rfl en120 (by repeat' constructor) (fun w hw => rmix_any x hx 19 61 6 64 true (by omega) (by omega) (by omega) (by omega) w hw.left.here) rfl ?_
          rintro ⟨⟩ -
          refine WL.y (Yl.assign rfl) rfl ?_
          refine WL.nil ?_
          refine WC.ret ?_
          repeat (with_reducible (first | refine peelT ?_ | refine peelB ?_ | refine peelTX ?_ | refine peelBX ?_ | refine peelBN ?_ | refine peelBO rfl ?_))
          refine ret1 (.inr rfl) Tryz.results96 rfl fun w' h => ⟨(), trivial, ?_, h.sub (by repeat' constructor)⟩
          unfold fourF
          rcases hbt with rfl | rfl
          all_goals first | (exfalso; omega) | simp [*]
end Go.Proofs.YtcplbkbimpiioaaGreatDoor

namespace Go.Proofs.YtcplbkbimpiioaaGreatDoor
open Go Go.RowKit
def first64 : List Int := [
  7640891576956012808, 13503953896175478587, 4354685564936845355, 11912009170470909681,
  5840696475078001361, 11170449401992604703, 2270897969802886507, 6620516959819538809]
def const64 : List Int := [
  4794697086780616226, 8158064640168781261, 13096744586834688815, 16840607885511220156,
  4131703408338449720, 6480981068601479193, 10538285296894168987, 12329834152419229976,
  15566598209576043074, 1334009975649890238, 2608012711638119052, 6128411473006802146,
  8268148722764581231, 9286055187155687089, 11230858885718282805, 13951009754708518548,
  16472876342353939154, 17275323862435702243, 1135362057144423861, 2597628984639134821,
  3308224258029322869, 5365058923640841347, 6679025012923562964, 8573033837759648693,
  10970295158949994411, 12119686244451234320, 12683024718118986047, 13788192230050041572,
  14330467153632333762, 15395433587784984357, 489312712824947311, 1452737877330783856,
  2861767655752347644, 3322285676063803686, 5560940570517711597, 5996557281743188959,
  7280758554555802590, 8532644243296465576, 9350256976987008742, 10552545826968843579,
  11727347734174303076, 12113106623233404929, 14000437183269869457, 14369950271660146224,
  15101387698204529176, 15463397548674623760, 17586052441742319658, 1182934255886127544,
  1847814050463011016, 2177327727835720531, 2830643537854262169, 3796741975233480872,
  4115178125766777443, 5681478168544905931, 6601373596472566643, 7507060721942968483,
  8399075790359081724, 8693463985226723168, 9568029438360202098, 10144078919501101548,
  10430055236837252648, 11840083180663258601, 13761210420658862357, 14299343276471374635,
  14566680578165727644, 15097957966210449927, 16922976911328602910, 17689382322260857208,
  500013540394364858, 748580250866718886, 1242879168328830382, 1977374033974150939,
  2944078676154940804, 3659926193048069267, 4368137639120453308, 4836135668995329356,
  5532061633213252278, 6448918945643986474, 6902733635092675308, 7801388544844847127]
def tn64 : Tn := ⟨28, 34, 39, 14, 18, 41, 1, 8, 7, 19, 61, 6⟩
theorem tn64_ok : tn64.ok 64 := by simp [Tn.ok, tn64]

theorem flat_ints (k : IntKind) : ∀ xs : List Int, flat (ints k xs) = ints k xs
  | [] => rfl
  | x :: xs => by
    show (Value.int k x).cells.toList ++ flat (ints k xs) = _
    rw [flat_ints k xs]; rfl
theorem ints_size (k : IntKind) (xs : List Int) : ∀ v ∈ ints k xs, v.cells.size = 1 := by
  intro v hv
  obtain ⟨x, _, rfl⟩ := List.mem_map.1 hv
  rfl

theorem leN {a b : Nat} (h : Nat.ble a b = true) : a ≤ b := Nat.le_of_ble_eq_true h
end Go.Proofs.YtcplbkbimpiioaaGreatDoor

namespace Go.Proofs.YtcplbkbimpiioaaGreatDoor
open Go Go.RowKit

theorem first_any (w : World) (hw : OK w (fpL []) [] w) : Fn Tryz.prog 116 [] [] w (fun _ : Nat => True) (fun b => .slice (some ⟨b, 0, none⟩) 8 8) (fun b => [ownR (.slice (some ⟨b, 0, none⟩) 8 8) 122 1 8 (ints .u64 first64)]) := by
  refine enterF Tryz.func116 rfl Tryz.ntmps116 rfl hw ?_
  refine WC.seq ?_
  refine WC.region ?_
  refine WL.y (Yl.assign rfl) rfl ?_
  refine WL.nil ?_
  refine WC.seq ?_
  refine WC.region ?_
  refine WL.to (To.buildSlice (vs := ints .u64 first64) un156 zs122 rfl rfl (ints_size _ _) (by decide) (by decide)) rfl ?_
  intro b1
  rw [flat_ints]
  refine WL.view (fun w h => h.blkOwn (b := b1) (size := 1) (n := 8) (by repeat constructor) (by unfold maxLen; omega) rfl) ?_
  refine WL.y (Yl.assign rfl) rfl ?_
  refine WL.nil ?_
  refine WC.ret ?_
  repeat (with_reducible (first | refine peelT ?_ | refine peelB ?_ | refine peelTX ?_ | refine peelBX ?_ | refine peelBN ?_ | refine peelBO rfl ?_))
  exact ret1 (.inr rfl) Tryz.results116 rfl fun w' h => ⟨b1, trivial, rfl, h.sub (by repeat' constructor)⟩
theorem rfirst_any (w : World) (hw : OK w (fpL []) [] w) : Fn Tryz.prog 91 [] [] w (fun _ : Nat => True) (fun b => .slice (some ⟨b, 0, none⟩) 8 8) (fun b => [ownR (.slice (some ⟨b, 0, none⟩) 8 8) 122 1 8 (ints .u64 first64)]) := by
  refine enterF Tryz.func91 rfl Tryz.ntmps91 rfl hw ?_
  refine WC.seq ?_
  refine WC.region ?_
  refine WL.y (Yl.assign rfl) rfl ?_
  refine WL.nil ?_
  refine WC.seq ?_
  refine WC.region ?_
  refine WL.to (To.buildSlice (vs := ints .u64 first64) un156 zs122 rfl rfl (ints_size _ _) (by decide) (by decide)) rfl ?_
  intro b1
  rw [flat_ints]
  refine WL.view (fun w h => h.blkOwn (b := b1) (size := 1) (n := 8) (by repeat constructor) (by unfold maxLen; omega) rfl) ?_
  refine WL.y (Yl.assign rfl) rfl ?_
  refine WL.nil ?_
  refine WC.ret ?_
  repeat (with_reducible (first | refine peelT ?_ | refine peelB ?_ | refine peelTX ?_ | refine peelBX ?_ | refine peelBN ?_ | refine peelBO rfl ?_))
  exact ret1 (.inr rfl) Tryz.results91 rfl fun w' h => ⟨b1, trivial, rfl, h.sub (by repeat' constructor)⟩
theorem consts_any (w : World) (hw : OK w (fpL []) [] w) : Fn Tryz.prog 117 [] [] w (fun _ : Nat => True) (fun b => .slice (some ⟨b, 0, none⟩) 80 80) (fun b => [ownR (.slice (some ⟨b, 0, none⟩) 80 80) 122 1 80 (ints .u64 const64)]) := by
  refine enterF Tryz.func117 rfl Tryz.ntmps117 rfl hw ?_
  refine WC.seq ?_
  refine WC.region ?_
  refine WL.y (Yl.assign rfl) rfl ?_
  refine WL.nil ?_
  refine WC.seq ?_
  refine WC.region ?_
  refine WL.to (To.buildSlice (vs := ints .u64 const64) un156 zs122 rfl rfl (ints_size _ _) (by decide) (by decide)) rfl ?_
  intro b1
  rw [flat_ints]
  refine WL.view (fun w h => h.blkOwn (b := b1) (size := 1) (n := 80) (by repeat constructor) (by unfold maxLen; omega) rfl) ?_
  refine WL.y (Yl.assign rfl) rfl ?_
  refine WL.nil ?_
  refine WC.ret ?_
  repeat (with_reducible (first | refine peelT ?_ | refine peelB ?_ | refine peelTX ?_ | refine peelBX ?_ | refine peelBN ?_ | refine peelBO rfl ?_))
  exact ret1 (.inr rfl) Tryz.results117 rfl fun w' h => ⟨b1, trivial, rfl, h.sub (by repeat' constructor)⟩
theorem rconsts_any (w : World) (hw : OK w (fpL []) [] w) : Fn Tryz.prog 92 [] [] w (fun _ : Nat => True) (fun b => .slice (some ⟨b, 0, none⟩) 80 80) (fun b => [ownR (.slice (some ⟨b, 0, none⟩) 80 80) 122 1 80 (ints .u64 const64)]) := by
  refine enterF Tryz.func92 rfl Tryz.ntmps92 rfl hw ?_
  refine WC.seq ?_
  refine WC.region ?_
  refine WL.y (Yl.assign rfl) rfl ?_
  refine WL.nil ?_
  refine WC.seq ?_
  refine WC.region ?_
  refine WL.to (To.buildSlice (vs := ints .u64 const64) un156 zs122 rfl rfl (ints_size _ _) (by decide) (by decide)) rfl ?_
  intro b1
  rw [flat_ints]
  refine WL.view (fun w h => h.blkOwn (b := b1) (size := 1) (n := 80) (by repeat constructor) (by unfold maxLen; omega) rfl) ?_
  refine WL.y (Yl.assign rfl) rfl ?_
  refine WL.nil ?_
  refine WC.ret ?_
  repeat (with_reducible (first | refine peelT ?_ | refine peelB ?_ | refine peelTX ?_ | refine peelBX ?_ | refine peelBN ?_ | refine peelBO rfl ?_))
  exact ret1 (.inr rfl) Tryz.results92 rfl fun w' h => ⟨b1, trivial, rfl, h.sub (by repeat' constructor)⟩

where
  take_getD' {xs : List Int} {j : Nat} (h : j < xs.length) : xs.take (j + 1) = xs.take j ++ [xs.getD j 0] := by
    rw [List.take_add_one]
    simp [h]

end Go.Proofs.YtcplbkbimpiioaaGreatDoor

namespace Go.Proofs.YtcplbkbimpiioaaGreatDoor
open Go Go.RowKit

theorem RdS.len {w : World} {T : Pm} {v : Value} {n m : Nat} {cs : List Value} (h : RdS w T v 1 n cs) (e : n = m) : RdS w T v 1 m cs := e ▸ h
/-- A machine with its rows. -/
def machR (b : Nat) (MT W : TypeId) (k : IntKind) (z : Int) (T : Tn) (ao ak : Option Addr) (ca ck nr : Nat) (H ks : List Int) : List Res :=
  [blkR b MT (mC (.slice ao 8 ca) (.slice ak nr ck) z T), ownR (.slice ao 8 ca) W 1 8 (ints k H), ownR (.slice ak nr ck) W 1 nr (ints k ks)]

theorem wide_any (w : World) (hw : OK w (fpL []) [] w) : Fn Tryz.prog 87 [] [] w (fun _ : Nat × (Option Addr × Nat) × (Option Addr × Nat) => True) (fun y => .pointer (some ⟨y.1, 0, none⟩))
    (fun y => machR y.1 180 122 .u64 8 tn64 y.2.1.1 y.2.2.1 y.2.1.2 y.2.2.2 80 first64 const64) := by
  refine enterF Tryz.func87 rfl Tryz.ntmps87 rfl hw ?_
  refine WC.seq ?_
  refine WC.region ?_
  refine WL.y (Yl.assign rfl) rfl ?_
  refine WL.nil ?_
  refine WC.seq ?_
  refine WC.region ?_
  refine WL.callC (xs := []) (cap := []) rfl rfl en116 (by repeat' constructor) (fun w hw => first_any w hw.left.here) rfl ?_
  rintro b1 -
  refine WL.callC (xs := []) (cap := []) rfl rfl en117 (by repeat' constructor) (fun w hw => consts_any w hw.left.here) rfl ?_
  rintro b2 -
  refine WL.y (Yl.build rfl (cs := three 28 34 39) (fun _ => by kernel_rfl)) rfl ?_
  refine WL.y (Yl.build rfl (cs := three 14 18 41) (fun _ => by kernel_rfl)) rfl ?_
  refine WL.y (Yl.build rfl (cs := three 1 8 7) (fun _ => by kernel_rfl)) rfl ?_
  refine WL.y (Yl.build rfl (cs := three 19 61 6) (fun _ => by kernel_rfl)) rfl ?_
  refine WL.y (Yl.build rfl (cs := three 28 34 39 ++ three 14 18 41 ++ three 1 8 7 ++ three 19 61 6) (fun _ => by kernel_rfl)) rfl ?_
  refine WL.y (Yl.build rfl (cs := mC (.slice (some ⟨b1, 0, none⟩) 8 8) (.slice (some ⟨b2, 0, none⟩) 80 80) 8 tn64) (fun _ => by kernel_rfl)) rfl ?_
  refine WL.to (To.box (cs := mC (.slice (some ⟨b1, 0, none⟩) 8 8) (.slice (some ⟨b2, 0, none⟩) 80 80) 8 tn64) rfl rfl) rfl ?_
  intro b9
  refine WL.y (Yl.assign rfl) rfl ?_
  refine WL.nil ?_
  refine WC.ret ?_
  repeat (with_reducible (first | refine peelT ?_ | refine peelB ?_ | refine peelTX ?_ | refine peelBX ?_ | refine peelBN ?_ | refine peelBO rfl ?_))
  exact ret1 (.inr rfl) Tryz.results87 rfl fun w' h => ⟨(b9, (some ⟨b1, 0, none⟩, 8), (some ⟨b2, 0, none⟩, 80)), trivial, rfl, OK.sub h (B := [blkR b9 180 (mC (.slice (some ⟨b1, 0, none⟩) 8 8) (.slice (some ⟨b2, 0, none⟩) 80 80) 8 tn64), ownR (.slice (some ⟨b1, 0, none⟩) 8 8) 122 1 8 (ints .u64 first64), ownR (.slice (some ⟨b2, 0, none⟩) 80 80) 122 1 80 (ints .u64 const64)]) (by repeat' constructor)⟩
end Go.Proofs.YtcplbkbimpiioaaGreatDoor

namespace Go.Proofs.YtcplbkbimpiioaaGreatDoor
open Go Go.RowKit

theorem Sown.tail {w : World} {e : TypeId} {ao : Option Addr} {n cap l : Nat} {cs : List Value} (h : Sown w e 1 (.slice ao n cap) n cs) (hl : l ≤ n) : Sown w e 1 (subS (.slice ao n cap) l n cap 1) (n - l) (cs.drop l) := by
  have hlen := h.1
  refine ⟨by rw [List.length_drop, hlen]; omega, ?_⟩
  rcases h.2 with ⟨hv, h0⟩ | ⟨b, off, cap', cur, hv, hb, h1, h2, h3, h4⟩
  · cases hv
    have : l = 0 := by omega
    subst this
    exact .inl ⟨rfl, rfl⟩
  · cases hv
    right
    by_cases hc : cap = l
    · subst hc
      have hn : n = cap := by omega
      subst hn
      refine ⟨b, off, 0, cur, by simp [subS], hb, by omega, by omega, by omega, fun j u hj => ?_⟩
      rw [List.drop_of_length_le (by omega)] at hj
      simp at hj
    · refine ⟨b, off + l, cap - l, cur, by simp [subS, hc, Addr.add_lit], hb, by omega, by omega, by omega, fun j u hj => ?_⟩
      rw [List.getElem?_drop] at hj
      have := h4 (l + j) u hj
      rw [Nat.add_assoc]
      exact this

theorem Sown.clip {w : World} {e : TypeId} {ao : Option Addr} {n cap : Nat} {cs : List Value} (h : Sown w e 1 (.slice ao n cap) n cs) : Sown w e 1 (subS (.slice ao n cap) 0 n n 1) n cs := by
  refine ⟨h.1, ?_⟩
  rcases h.2 with ⟨hv, h0⟩ | ⟨b, off, cap', cur, hv, hb, h1, h2, h3, h4⟩
  · cases hv
    exact .inl ⟨by simp [subS, h0], h0⟩
  · cases hv
    refine .inr ⟨b, off, n, cur, ?_, hb, Nat.le_refl _, by omega, by omega, h4⟩
    by_cases hn : n = 0
    · simp [subS, hn]
    · simp [subS, Addr.add]

theorem OK.tail {w0 : World} {S : Pm} {H F : List Res} {w : World} {e : TypeId} {ao : Option Addr} {n cap l : Nat} {cs : List Value} (h : OK w0 S H w) (t : Take1 H (ownR (.slice ao n cap) e 1 n cs) F) (hl : l ≤ n) :
    OK w0 S (ownR (subS (.slice ao n cap) l n cap 1) e 1 (n - l) (cs.drop l) :: F) w :=
  h.recast t (fun hs => Sown.tail hs hl) (fun k hk => by
    cases ao with
    | none => simp [subS] at hk; exact hk.elim
    | some a =>
      simp only [subS] at hk
      split at hk
      · exact hk
      · obtain ⟨b, o, s⟩ := a
        have : ((⟨b, o, s⟩ : Addr).add (l * 1)).block = b := by unfold Addr.add; split <;> rfl
        show b = k
        rw [← this]; exact hk)
theorem OK.clip {w0 : World} {S : Pm} {H F : List Res} {w : World} {e : TypeId} {ao : Option Addr} {n cap : Nat} {cs : List Value} (h : OK w0 S H w) (t : Take1 H (ownR (.slice ao n cap) e 1 n cs) F) :
    OK w0 S (ownR (subS (.slice ao n cap) 0 n n 1) e 1 n cs :: F) w :=
  h.recast t (fun hs => Sown.clip hs) (fun k hk => by
    cases ao with
    | none => simp [subS] at hk; exact hk.elim
    | some a =>
      simp only [subS] at hk
      split at hk
      · exact hk
      · have : (a.add (0 * 1)) = a := by simp [Addr.add]
        simp only [Option.map_some, this] at hk
        exact hk)

/-- The state behind so many blocks of a text. -/
def bkF (k : IntKind) (B : Int) (z n : Nat) (T : Tn) (ks H bs : List Int) : Nat → List Int
  | 0 => H
  | c + 1 => blockF k B z n T ks (bkF k B z n T ks H bs c) ((bs.drop (c * (16 * z))).take (16 * z))
theorem bkF_len {k : IntKind} {B : Int} {z n : Nat} {T : Tn} {ks H bs : List Int} : ∀ c, (bkF k B z n T ks H bs c).length = H.length
  | 0 => rfl
  | c + 1 => by unfold bkF; rw [blockF_len, bkF_len c]
theorem bkF_app {k : IntKind} {B : Int} {z n : Nat} {T : Tn} {ks H bs cs : List Int} : ∀ {c : Nat}, c * (16 * z) ≤ bs.length → bkF k B z n T ks H (bs ++ cs) c = bkF k B z n T ks H bs c
  | 0, _ => rfl
  | c + 1, h => by
    rw [Nat.succ_mul] at h
    unfold bkF
    rw [bkF_app (c := c) (by omega), List.drop_append_of_le_length (by omega), List.take_append_of_le_length (by rw [List.length_drop]; omega)]

theorem ints_more {k : IntKind} {X : List Int} {c s : Nat} : (ints k (X.drop (c * s))).drop s = ints k (X.drop ((c + 1) * s)) := by
  unfold ints
  rw [← List.map_drop, List.drop_drop, Nat.succ_mul]

/-- The length's bytes, so many of the last ones. -/
def lnF (z n : Nat) : Nat → List Int
  | 0 => List.replicate (2 * z) 0
  | i + 1 => (lnF z n i).set (2 * z - 1 - i) (IntKind.u8.wrap (IntKind.u64.wrap ((n : Int) * 2 ^ (3 : Int).toNat) / 2 ^ (8 * (i : Int)).toNat))
theorem lnF_len (z n : Nat) : ∀ i, (lnF z n i).length = 2 * z
  | 0 => by simp [lnF]
  | i + 1 => by simp [lnF, lnF_len z n i]
def zeroN (z n : Nat) : Nat := (16 * z - (n + 1 + 2 * z) % (16 * z)) % (16 * z)
def padF (z : Nat) (msg : List Int) : List Int := msg ++ ([128] ++ List.replicate (zeroN z msg.length) 0 ++ lnF z msg.length 8)
/-- A word's bytes, so many of the first ones. -/
def wdF (z : Nat) (x : Int) (j : Nat) : List Int := (List.range j).map fun t : Nat => IntKind.u8.wrap (x / 2 ^ (8 * ((z : Int) - 1 - (t : Int))).toNat)
theorem wdF_len (z : Nat) (x : Int) (j : Nat) : (wdF z x j).length = j := by simp [wdF]
theorem wdF_succ (z : Nat) (x : Int) (j : Nat) : wdF z x (j + 1) = wdF z x j ++ [IntKind.u8.wrap (x / 2 ^ (8 * ((z : Int) - 1 - (j : Int))).toNat)] := by simp [wdF, List.range_succ]
def dgF (z : Nat) (xs : List Int) : List Int := (xs.map fun x => wdF z x z).flatten
theorem dgF_len (z : Nat) : ∀ xs : List Int, (dgF z xs).length = xs.length * z
  | [] => by simp [dgF]
  | x :: xs => by
    have := dgF_len z xs
    unfold dgF at this ⊢
    rw [List.map_cons, List.flatten_cons, List.length_append, wdF_len, this, List.length_cons, Nat.succ_mul, Nat.add_comm]
theorem dgF_snoc (z : Nat) {xs : List Int} {i : Nat} (h : i < xs.length) : dgF z (xs.take (i + 1)) = dgF z (xs.take i) ++ wdF z (xs.getD i 0) z := by
  rw [List.take_add_one]
  unfold dgF
  rw [List.map_append, List.flatten_append]
  congr 1
  simp [h]
/-- The sum of a text. -/
def sumF (k : IntKind) (B : Int) (z n : Nat) (T : Tn) (ks H msg : List Int) : List Int := dgF z (bkF k B z n T ks H (padF z msg) ((padF z msg).length / (16 * z)))
end Go.Proofs.YtcplbkbimpiioaaGreatDoor

namespace Go.Proofs.YtcplbkbimpiioaaGreatDoor
open Go Go.RowKit
theorem flat_take {ls : List (List Int)} {i : Nat} {bs : List Int} (h : ls[i]? = some bs) : (ls.take (i + 1)).flatten = (ls.take i).flatten ++ bs := by
  rw [List.take_add_one, h]
  simp
theorem flat_le {ls : List (List Int)} (i : Nat) : (ls.take i).flatten.length ≤ ls.flatten.length := by
  conv => rhs; rw [← List.take_append_drop i ls]
  rw [List.flatten_append, List.length_append]
  omega

end Go.Proofs.YtcplbkbimpiioaaGreatDoor

namespace Go.Proofs.YtcplbkbimpiioaaGreatDoor
open Go Go.RowKit

set_option maxRecDepth 100000 in
theorem sum64_any (m : Nat) (ho ko : Option Addr) (hc kc : Nat) (T : Tn) (hT : T.ok 64) (H0 ks : List Int) (ls : List (List Int)) (vs : List Value) (lv : Value) (hH : H0.length = 8) (hks : ks.length = 80) (hvl : vs.length = ls.length) (htot : ls.flatten.length ≤ 100000) (hmany : ls.length ≤ 100000) (w : World)
    (hm : BlkS w (fpL [ownR (.slice ho 8 hc) 122 1 8 (ints .u64 H0)]) m 180 (mC (.slice ho 8 hc) (.slice ko 80 kc) 8 T)) (hk : RdS w (fpL [ownR (.slice ho 8 hc) 122 1 8 (ints .u64 H0)]) (.slice ko 80 kc) 1 80 (ints .u64 ks))
    (hlv : RdS w (fpL [ownR (.slice ho 8 hc) 122 1 8 (ints .u64 H0)]) lv 1 ls.length vs) (hls : ∀ (i : Nat) v bs, vs[i]? = some v → ls[i]? = some bs → RdS w (fpL [ownR (.slice ho 8 hc) 122 1 8 (ints .u64 H0)]) v 1 bs.length (ints .u8 bs))
    (hw : OK w (fpL [ownR (.slice ho 8 hc) 122 1 8 (ints .u64 H0)]) [ownR (.slice ho 8 hc) 122 1 8 (ints .u64 H0)] w) :
    Fn Tryz.prog 88 [.pointer (some ⟨m, 0, none⟩), lv] [ownR (.slice ho 8 hc) 122 1 8 (ints .u64 H0)] w (fun _ : Option Addr × Nat => True) (fun y => .slice y.1 (8 * 8) y.2) (fun y => [ownR (.slice y.1 (8 * 8) y.2) 5 1 (8 * 8) (ints .u8 (sumF .u64 64 8 80 T ks H0 ls.flatten))]) := by
  obtain ⟨la, lc, rfl, hlcl, hlml⟩ := hlv.rd.form
  refine enterF Tryz.func88 rfl Tryz.ntmps88 rfl hw ?_
  refine WC.seq ?_
  refine WC.region ?_
  refine WL.y (Yl.assign rfl) rfl ?_
  refine WL.nil ?_
  refine WC.seq ?_
  refine WC.region ?_
  refine WL.y (Yl.move rfl) rfl ?_
  refine WL.y (Yl.nilCheck rfl) rfl ?_
  refine WL.y (Yl.field fo180_2 rfl) rfl ?_
  refine WL.y (Yl.loadS on3 rfl hm (by rfl)) rfl ?_
  refine WL.y (Yl.mul rfl rfl (IntWalk.i64_in _ (by omega))) rfl ?_
  refine WL.y (Yl.assign rfl) rfl ?_
  refine WL.nil ?_
  refine WC.seq ?_
  refine WC.region ?_
  refine WL.y (Yl.assign rfl) rfl ?_
  refine WL.nil ?_
  refine WC.seq ?_
  refine WC.region ?_
  refine WL.y (Yl.assign rfl) rfl ?_
  refine WL.nil ?_
  refine WC.seq ?_
  refine WC.seq ?_
  refine WC.region ?_
  refine WL.y (Yl.move rfl) rfl ?_
  refine WL.y (Yl.len un150 rfl) rfl ?_
  refine WL.y (Yl.move rfl) rfl ?_
  refine WL.nil ?_
  refine WC.block ?_
  refine WC.view (fun w h => h.addNil 5 1) ?_
  refine WC.loop (α := Nat × Nat × (Option Addr × Nat)) (fun p => [(0, .pointer (some ⟨m, 0, none⟩)), (5, .int .i64 128), (6, .slice p.2.2.1 ((ls.take p.1).flatten.length - p.2.1 * 128) p.2.2.2), (7, .int .u64 ((ls.take p.1).flatten.length : Int)), (21, .slice la ls.length lc), (22, .int .i64 (ls.length : Int)), (23, .int .i64 (p.1 : Int))]) (fun p => [ownR (.slice p.2.2.1 ((ls.take p.1).flatten.length - p.2.1 * 128) p.2.2.2) 5 1 ((ls.take p.1).flatten.length - p.2.1 * 128) (ints .u8 ((ls.take p.1).flatten.drop (p.2.1 * 128))), ownR (.slice ho 8 hc) 122 1 8 (ints .u64 (bkF .u64 64 8 80 T ks H0 (ls.take p.1).flatten p.2.1))]) (fun p => p.1 ≤ ls.length ∧ p.2.1 * 128 ≤ (ls.take p.1).flatten.length ∧ (ls.take p.1).flatten.length - p.2.1 * 128 < 128 ∧ (ls.take p.1).flatten.length - p.2.1 * 128 ≤ p.2.2.2) (fun p => ls.length - p.1) (0, 0, (none, 0)) ⟨Nat.zero_le _, by simp, by simp, by simp⟩ ⟨(by repeat' constructor), _, (by repeat' constructor)⟩ ?_
  rintro ⟨i, c0, ⟨ao, ac⟩⟩ ⟨hi, hcl0, hcs0, hca0⟩
  dsimp only at hi hcl0 hcs0 hca0 ⊢
  have hfl := flat_le (ls := ls) i
  obtain ⟨msg, hmsg⟩ : ∃ msg, (ls.take i).flatten = msg := ⟨_, rfl⟩
  rw [hmsg] at hcl0 hcs0 hca0 hfl ⊢
  refine WC.seq ?_
  refine WC.region ?_
  refine WL.y (Yl.lss rfl rfl) rfl ?_
  refine WL.nil ?_
  refine WC.seq ?_
  refine WC.condD rfl (fun g24 => ?_) (fun g24 => ?_)
  · refine WC.skip ?_
    refine WC.seq ?_
    refine WC.block ?_
    refine WC.seq ?_
    refine WC.region ?_
    obtain ⟨bv, hbv⟩ : ∃ v, vs[i]? = some v := ⟨_, List.getElem?_eq_getElem (by omega)⟩
    obtain ⟨bs, hbs⟩ : ∃ b, ls[i]? = some b := ⟨_, List.getElem?_eq_getElem (by omega)⟩
    have hx := hls i bv bs hbv hbs
    obtain ⟨bal, bcl, rfl, hbcl, hbml⟩ := hx.rd.form
    have hnext : (ls.take (i + 1)).flatten = msg ++ bs := by rw [flat_take hbs, hmsg]
    have hnl : (msg ++ bs).length ≤ 100000 := by have := flat_le (ls := ls) (i + 1); rw [hnext] at this; omega
    have hnl2 : (msg ++ bs).length = msg.length + bs.length := List.length_append
    refine WL.y (Yl.index un150 sz54 rfl rfl (Reads.s hlv) rfl (by omega)) rfl ?_
    refine WL.y (Yl.loadE on54 rfl (Reads.s hlv) hbv) rfl ?_
    refine WL.y (Yl.assign rfl) rfl ?_
    refine WL.nil ?_
    refine WC.seq ?_
    refine WC.region ?_
    refine WL.y (Yl.move rfl) rfl ?_
    refine WL.y (Yl.move rfl) rfl ?_
    refine WL.y (Yl.len un54 rfl) rfl ?_
    refine WL.y (Yl.conv un3 un122 rfl (u64_in' ⟨by omega, by omega⟩)) rfl ?_
    refine WL.y (Yl.add rfl rfl rfl) rfl ?_
    refine WL.say (t := 31) (v' := .int .u64 ((msg ++ bs).length : Int)) rfl (by (rw [u64_in' ⟨by omega, by omega⟩, hnl2]; simp)) ?_
    refine WL.y (Yl.assign rfl) rfl ?_
    refine WL.nil ?_
    refine WC.seq ?_
    refine WC.region ?_
    refine WL.y (Yl.move rfl) rfl ?_
    refine WL.y (Yl.move rfl) rfl ?_
    refine WL.to (To.append sl54 rfl rfl (by repeat constructor) (Reads.s hx) (ints_one _ _) (show msg.length - c0 * 128 + bs.length = (msg ++ bs).length - c0 * 128 by omega) (show _ = ints .u8 ((msg ++ bs).drop (c0 * 128)) by rw [List.drop_append_of_le_length hcl0]; simp [ints]) (by unfold maxLen; omega) (by omega)) rfl ?_
    rintro ⟨⟨ao34, c34⟩, hc34⟩
    dsimp only at hc34 ⊢
    refine WL.y (Yl.assign rfl) rfl ?_
    refine WL.nil ?_
    refine WC.block ?_
    rw [← bkF_app (z := 8) (cs := bs) (by omega : c0 * (16 * 8) ≤ msg.length)]
    refine WC.loop (α := Nat × (Option Addr × Nat)) (fun p => [(0, .pointer (some ⟨m, 0, none⟩)), (5, .int .i64 128), (6, .slice p.2.1 ((msg ++ bs).length - p.1 * 128) p.2.2), (7, .int .u64 ((msg ++ bs).length : Int)), (21, .slice la ls.length lc), (22, .int .i64 (ls.length : Int)), (23, .int .i64 (i : Int))]) (fun p => [ownR (.slice p.2.1 ((msg ++ bs).length - p.1 * 128) p.2.2) 5 1 ((msg ++ bs).length - p.1 * 128) (ints .u8 ((msg ++ bs).drop (p.1 * 128))), ownR (.slice ho 8 hc) 122 1 8 (ints .u64 (bkF .u64 64 8 80 T ks H0 (msg ++ bs) p.1))]) (fun p => p.1 * 128 ≤ (msg ++ bs).length ∧ (msg ++ bs).length - p.1 * 128 ≤ p.2.2) (fun p => (msg ++ bs).length - p.1 * 128) (c0, (ao34, c34)) ⟨by dsimp only; omega, by dsimp only; omega⟩ ⟨(by repeat' constructor), _, (by repeat' constructor)⟩ ?_
    rintro ⟨c, ⟨qo, qc⟩⟩ ⟨hcc, hqc⟩
    dsimp only at hcc hqc ⊢
    refine WC.seq ?_
    refine WC.seq ?_
    refine WC.region ?_
    refine WL.y (Yl.move rfl) rfl ?_
    refine WL.y (Yl.len un54 rfl) rfl ?_
    refine WL.y (Yl.move rfl) rfl ?_
    refine WL.y (Yl.geq rfl rfl) rfl ?_
    refine WL.nil ?_
    refine WC.condD rfl (fun g38 => ?_) (fun g38 => ?_)
    · refine WC.skip ?_
      refine WC.seq ?_
      refine WC.block ?_
      refine WC.region ?_
      refine WL.y (Yl.move rfl) rfl ?_
      refine WL.y (Yl.move rfl) rfl ?_
      refine WL.y (Yl.move rfl) rfl ?_
      refine WL.y (Yl.slice (h := 128) un54 sz5 rfl rfl ⟨.i64, rfl⟩ (by omega) (by omega)) rfl ?_
      refine WL.callC (xs := [.tmp 42, .tmp 45]) (cap := []) rfl rfl en118 (by repeat' constructor) (fun w hw => block64_any m ho ko hc kc T hT (bkF .u64 64 8 80 T ks H0 (msg ++ bs) c) ks (((msg ++ bs).drop (c * 128)).take 128) _ (by rw [bkF_len, hH]) hks (by simp; omega) w (hw.srcBS (A := [_]) hm) (hw.srcS (A := [_]) hk) ((hw.src (A := [_]) ((RdOf.own (v := .slice qo ((msg ++ bs).length - c * 128) qc) (e := 5) (cs := ints .u8 ((msg ++ bs).drop (c * 128)))).sub (l := 0) (h := 16 * 8) (by omega) (by omega) (cs' := ints .u8 (((msg ++ bs).drop (c * 128)).take 128)) (by simp [ints])) (by repeat constructor)).len (by simp; omega)) hw.left.here) rfl ?_
      rintro ⟨⟩ -
      refine WL.nil ?_
      refine WC.region ?_
      refine WL.view (fun w h => h.tail (ao := qo) (cap := qc) (l := 128) (by repeat constructor) (by omega)) ?_
      refine WL.y (Yl.move rfl) rfl ?_
      refine WL.y (Yl.move rfl) rfl ?_
      refine WL.y (Yl.slice (l := 128) un54 sz5 rfl ⟨.i64, rfl⟩ rfl (by omega) (by omega)) rfl ?_
      refine WL.y (Yl.assign rfl) rfl ?_
      refine WL.nil ?_
      refine ⟨rfl, (c + 1, ((if qc = 128 then qo else qo.map (·.add (128 * 1))), qc - 128)), ⟨by dsimp only; omega, by dsimp only; omega⟩, by dsimp only; omega, ?_⟩
      dsimp only
      rw [show (msg ++ bs).length - (c + 1) * 128 = (msg ++ bs).length - c * 128 - 128 by omega, ← ints_more]
      exact ⟨(by repeat' constructor), _, (by repeat' constructor)⟩
    · refine WC.exit ?_
      refine WC.region ?_
      refine WL.y (Yl.add rfl rfl (IntWalk.i64_in _ (by omega))) rfl ?_
      refine WL.y (Yl.move rfl) rfl ?_
      refine WL.nil ?_
      refine ⟨rfl, (i + 1, c, (qo, qc)), ⟨by dsimp only; omega, by dsimp only; rw [hnext]; omega, by dsimp only; rw [hnext]; omega, by dsimp only; rw [hnext]; omega⟩, by dsimp only; omega, ?_⟩
      dsimp only
      rw [hnext]
      exact ⟨(by repeat' constructor), _, (by repeat' constructor)⟩
  · refine WC.exit ?_
    refine WC.seq ?_
    refine WC.region ?_
    have hmsg2 : ls.flatten = msg := by rw [← hmsg, show i = ls.length by omega, List.take_length]
    have hz : zeroN 8 msg.length = (128 - (msg.length + 1 + 16) % 128) % 128 := rfl
    obtain ⟨p, hp⟩ : ∃ p, zeroN 8 msg.length = p := ⟨_, rfl⟩
    rw [hp] at hz
    refine WL.y (Yl.move rfl) rfl ?_
    refine WL.y (Yl.move rfl) rfl ?_
    refine WL.y (Yl.len un54 rfl) rfl ?_
    refine WL.y (Yl.move rfl) rfl ?_
    refine WL.y (Yl.len un54 rfl) rfl ?_
    refine WL.view (fun w h => h.clip (ao := ao) (cap := ac) (by repeat constructor)) ?_
    refine WL.y (Yl.slice3 un54 sz5 rfl rfl rfl (by omega) (by omega)) rfl ?_
    refine WL.to (To.buildSlice (vs := [.int .u8 128]) un54 zs5 rfl rfl (by simp [Value.cells]) (by decide) (by decide)) rfl ?_
    intro b54
    refine WL.to (To.append sl54 rfl rfl (by repeat constructor) (Reads.of (RdOf.blk (size := 1) (cs := [.int .u8 128]) (cs' := [.int .u8 128]) (Nat.le_refl _) (by unfold maxLen; omega) (by simp) rfl) (by repeat constructor)) (by intro v hv; rw [List.mem_singleton.1 hv]; rfl) rfl (ints_snoc _ _ _) (by unfold maxLen; omega) (by omega)) rfl ?_
    rintro ⟨⟨ao55, c55⟩, hc55⟩
    dsimp only at hc55 ⊢
    refine WL.y (Yl.assign rfl) rfl ?_
    refine WL.nil ?_
    refine WC.seq ?_
    refine WC.block ?_
    refine WC.loop (α := Nat × (Option Addr × Nat)) (fun q => [(0, .pointer (some ⟨m, 0, none⟩)), (5, .int .i64 128), (6, .slice q.2.1 (msg.length - c0 * 128 + 1 + q.1) q.2.2), (7, .int .u64 (msg.length : Int))]) (fun q => [ownR (.slice q.2.1 (msg.length - c0 * 128 + 1 + q.1) q.2.2) 5 1 (msg.length - c0 * 128 + 1 + q.1) (ints .u8 (msg.drop (c0 * 128) ++ [128] ++ List.replicate q.1 0)), ownR (.slice ho 8 hc) 122 1 8 (ints .u64 (bkF .u64 64 8 80 T ks H0 msg c0))]) (fun q => q.1 ≤ p) (fun q => p - q.1) (0, (ao55, c55)) (Nat.zero_le _) ⟨(by repeat' constructor), _, (by rw [List.replicate_zero, List.append_nil]; exact (by repeat' constructor))⟩ ?_
    rintro ⟨j, ⟨zo, zc⟩⟩ hj
    dsimp only at hj ⊢
    refine WC.seq ?_
    refine WC.seq ?_
    refine WC.region ?_
    refine WL.y (Yl.move rfl) rfl ?_
    refine WL.y (Yl.len un54 rfl) rfl ?_
    refine WL.y (Yl.move rfl) rfl ?_
    refine WL.y (Yl.nilCheck rfl) rfl ?_
    refine WL.y (Yl.field fo180_2 rfl) rfl ?_
    refine WL.y (Yl.loadS on3 rfl hm (by rfl)) rfl ?_
    refine WL.y (Yl.mul rfl rfl (IntWalk.i64_in _ (by omega))) rfl ?_
    refine WL.y (Yl.add rfl rfl (IntWalk.i64_in _ (by omega))) rfl ?_
    refine WL.y (Yl.move rfl) rfl ?_
    refine WL.y (Yl.rem rfl rfl (by omega) (i64_rem (by omega))) rfl ?_
    refine WL.y (Yl.neq rfl rfl) rfl ?_
    refine WL.nil ?_
    refine WC.condD rfl (fun g66 => ?_) (fun g66 => ?_)
    · refine WC.skip ?_
      refine WC.block ?_
      refine WC.region ?_
      refine WL.y (Yl.move rfl) rfl ?_
      refine WL.to (To.buildSlice (vs := [.int .u8 0]) un54 zs5 rfl rfl (by simp [Value.cells]) (by decide) (by decide)) rfl ?_
      intro b68
      refine WL.to (To.append sl54 rfl rfl (by repeat constructor) (Reads.of (RdOf.blk (size := 1) (cs := [.int .u8 0]) (cs' := [.int .u8 0]) (Nat.le_refl _) (by unfold maxLen; omega) (by simp) rfl) (by repeat constructor)) (by intro v hv; rw [List.mem_singleton.1 hv]; rfl) rfl (show _ = ints .u8 (msg.drop (c0 * 128) ++ [128] ++ List.replicate (j + 1) 0) by rw [ints_snoc, List.append_assoc _ _ [0], ← List.replicate_succ']) (by unfold maxLen; omega) (by omega)) rfl ?_
      rintro ⟨⟨ao69, c69⟩, hc69⟩
      dsimp only at hc69 ⊢
      refine WL.y (Yl.assign rfl) rfl ?_
      refine WL.nil ?_
      exact ⟨rfl, (j + 1, ao69, c69), by dsimp only; omega, by dsimp only; omega, (by repeat' constructor), _, (by repeat' constructor)⟩
    · refine WC.exit ?_
      refine WC.seq ?_
      refine WC.region ?_
      have hjp : j = p := by omega
      subst hjp
      refine WL.y (Yl.move rfl) rfl ?_
      refine WL.y (Yl.nilCheck rfl) rfl ?_
      refine WL.y (Yl.field fo180_2 rfl) rfl ?_
      refine WL.y (Yl.loadS on3 rfl hm (by rfl)) rfl ?_
      refine WL.y (Yl.mul rfl rfl (IntWalk.i64_in _ (by omega))) rfl ?_
      refine WL.to (To.makeSlice (n := 16) un54 zb54_5 rfl rfl rfl (by omega) (by unfold maxLen; omega)) rfl ?_
      intro b75
      refine WL.y (Yl.assign rfl) rfl ?_
      refine WL.nil ?_
      refine WC.seq ?_
      refine WC.seq ?_
      refine WC.region ?_
      refine WL.y (Yl.move rfl) rfl ?_
      refine WL.nil ?_
      refine WC.block ?_
      refine WC.view (fun w h => h.blkOwn (b := b75) (size := 1) (n := 16) (by repeat constructor) (by unfold maxLen; omega) rfl) ?_
      rw [show List.replicate 16 (Value.int .u8 0) = ints .u8 (lnF 8 msg.length 0) by simp [lnF, ints]]
      refine WC.loop (α := Nat) (fun k => [(0, .pointer (some ⟨m, 0, none⟩)), (5, .int .i64 128), (6, .slice zo (msg.length - c0 * 128 + 1 + j) zc), (7, .int .u64 (msg.length : Int)), (10, .slice (some ⟨b75, 0, none⟩) 16 16), (76, .int .i64 (k : Int))]) (fun k => [ownR (.slice (some ⟨b75, 0, none⟩) 16 16) 5 1 16 (ints .u8 (lnF 8 msg.length k)), ownR (.slice zo (msg.length - c0 * 128 + 1 + j) zc) 5 1 (msg.length - c0 * 128 + 1 + j) (ints .u8 (msg.drop (c0 * 128) ++ [128] ++ List.replicate j 0)), ownR (.slice ho 8 hc) 122 1 8 (ints .u64 (bkF .u64 64 8 80 T ks H0 msg c0))]) (fun k => k ≤ 8) (fun k => 8 - k) 0 (Nat.zero_le _) ⟨(by repeat' constructor), _, (by repeat' constructor)⟩ ?_
      intro k hk8
      refine WC.seq ?_
      refine WC.region ?_
      refine WL.y (Yl.lss rfl rfl) rfl ?_
      refine WL.nil ?_
      refine WC.seq ?_
      refine WC.condD rfl (fun g77 => ?_) (fun g77 => ?_)
      · refine WC.skip ?_
        refine WC.seq ?_
        refine WC.block ?_
        refine WC.seq ?_
        refine WC.region ?_
        refine WL.y (Yl.move rfl) rfl ?_
        refine WL.y (Yl.assign rfl) rfl ?_
        refine WL.nil ?_
        refine WC.region ?_
        refine WL.y (Yl.move rfl) rfl ?_
        refine WL.y (Yl.move rfl) rfl ?_
        refine WL.y (Yl.len un54 rfl) rfl ?_
        refine WL.y (Yl.sub rfl rfl (IntWalk.i64_in _ (by omega))) rfl ?_
        refine WL.y (Yl.move rfl) rfl ?_
        refine WL.y (Yl.sub rfl rfl (IntWalk.i64_in _ (by omega))) rfl ?_
        refine WL.y (Yl.move rfl) rfl ?_
        refine WL.y (Yl.shl rfl rfl ⟨by omega, (by simp [IntKind.bits]; try omega)⟩ rfl) rfl ?_
        refine WL.y (Yl.move rfl) rfl ?_
        refine WL.y (Yl.mul rfl rfl (IntWalk.i64_in _ (by omega))) rfl ?_
        refine WL.y (Yl.shr rfl rfl ⟨by omega, (by simp [IntKind.bits]; try omega)⟩ rfl) rfl ?_
        refine WL.y (Yl.conv un122 un5 rfl rfl) rfl ?_
        refine WL.y (Yl.index (j := 16 - 1 - k) un54 sz5 rfl rfl (Reads.of RdOf.own (by repeat constructor)) (by omega) (by omega)) rfl ?_
        refine WL.sto (Sto.elem sz5 rfl rfl (by repeat constructor) rfl (by omega) (by rfl)) (fun _ h => nomatch h) ?_
        refine WL.nil ?_
        refine WC.region ?_
        refine WL.y (Yl.add rfl rfl (IntWalk.i64_in _ (by omega))) rfl ?_
        refine WL.y (Yl.move rfl) rfl ?_
        refine WL.nil ?_
        rw [ints_set]
        exact ⟨rfl, k + 1, by omega, by omega, (by repeat' constructor), _, (by repeat' constructor)⟩
      · refine WC.exit ?_
        refine WC.seq ?_
        refine WC.region ?_
        have hk9 : k = 8 := by omega
        subst hk9
        obtain ⟨P, hP⟩ : ∃ P, padF 8 msg = P := ⟨_, rfl⟩
        have hP2 : P = msg ++ ([128] ++ List.replicate j 0 ++ lnF 8 msg.length 8) := by rw [← hP, ← hp]; rfl
        have hPl : P.length = msg.length + 1 + j + 16 := by rw [hP2]; simp [lnF_len]; omega
        have hPm : P.length % 128 = 0 := by omega
        refine WL.y (Yl.move rfl) rfl ?_
        refine WL.y (Yl.move rfl) rfl ?_
        refine WL.to (To.append sl54 rfl rfl (by repeat constructor) (Reads.of RdOf.own (by repeat constructor)) (ints_one _ _) (show msg.length - c0 * 128 + 1 + j + 16 = P.length - c0 * 128 by omega) (show _ = ints .u8 (P.drop (c0 * 128)) by rw [hP2, List.drop_append_of_le_length hcl0]; simp [ints]) (by unfold maxLen; omega) (by omega)) rfl ?_
        rintro ⟨⟨ao95, c95⟩, hc95⟩
        dsimp only at hc95 ⊢
        refine WL.y (Yl.assign rfl) rfl ?_
        refine WL.nil ?_
        refine WC.seq ?_
        refine WC.block ?_
        rw [show bkF .u64 64 8 80 T ks H0 msg c0 = bkF .u64 64 8 80 T ks H0 P c0 by rw [hP2]; exact (bkF_app (by omega)).symm]
        refine WC.loop (α := Nat × (Option Addr × Nat)) (fun q => [(0, .pointer (some ⟨m, 0, none⟩)), (5, .int .i64 128), (6, .slice q.2.1 (P.length - q.1 * 128) q.2.2)]) (fun q => [ownR (.slice q.2.1 (P.length - q.1 * 128) q.2.2) 5 1 (P.length - q.1 * 128) (ints .u8 (P.drop (q.1 * 128))), ownR (.slice ho 8 hc) 122 1 8 (ints .u64 (bkF .u64 64 8 80 T ks H0 P q.1))]) (fun q => q.1 * 128 ≤ P.length ∧ P.length - q.1 * 128 ≤ q.2.2) (fun q => P.length - q.1 * 128) (c0, (ao95, c95)) ⟨by dsimp only; omega, by dsimp only; omega⟩ ⟨(by repeat' constructor), _, (by repeat' constructor)⟩ ?_
        rintro ⟨c, ⟨qo, qc⟩⟩ ⟨hcc, hqc⟩
        dsimp only at hcc hqc ⊢
        refine WC.seq ?_
        refine WC.seq ?_
        refine WC.region ?_
        refine WL.y (Yl.move rfl) rfl ?_
        refine WL.y (Yl.len un54 rfl) rfl ?_
        refine WL.y (Yl.gtr rfl rfl) rfl ?_
        refine WL.nil ?_
        refine WC.condD rfl (fun g98 => ?_) (fun g98 => ?_)
        · refine WC.skip ?_
          refine WC.seq ?_
          refine WC.block ?_
          refine WC.region ?_
          refine WL.y (Yl.move rfl) rfl ?_
          refine WL.y (Yl.move rfl) rfl ?_
          refine WL.y (Yl.move rfl) rfl ?_
          refine WL.y (Yl.slice (h := 128) un54 sz5 rfl rfl ⟨.i64, rfl⟩ (by omega) (by omega)) rfl ?_
          refine WL.callC (xs := [.tmp 102, .tmp 105]) (cap := []) rfl rfl en118 (by repeat' constructor) (fun w hw => block64_any m ho ko hc kc T hT (bkF .u64 64 8 80 T ks H0 P c) ks ((P.drop (c * 128)).take 128) _ (by rw [bkF_len, hH]) hks (by simp; omega) w (hw.srcBS (A := [_]) hm) (hw.srcS (A := [_]) hk) ((hw.src (A := [_]) ((RdOf.own (v := .slice qo (P.length - c * 128) qc) (e := 5) (cs := ints .u8 (P.drop (c * 128)))).sub (l := 0) (h := 128) (by omega) (by omega) (cs' := ints .u8 ((P.drop (c * 128)).take 128)) (by simp [ints])) (by repeat constructor)).len (by simp; omega)) hw.left.here) rfl ?_
          rintro ⟨⟩ -
          refine WL.nil ?_
          refine WC.region ?_
          refine WL.view (fun w h => h.tail (ao := qo) (cap := qc) (l := 128) (by repeat constructor) (by omega)) ?_
          refine WL.y (Yl.move rfl) rfl ?_
          refine WL.y (Yl.move rfl) rfl ?_
          refine WL.y (Yl.slice (l := 128) un54 sz5 rfl ⟨.i64, rfl⟩ rfl (by omega) (by omega)) rfl ?_
          refine WL.y (Yl.assign rfl) rfl ?_
          refine WL.nil ?_
          refine ⟨rfl, (c + 1, ((if qc = 128 then qo else qo.map (·.add (128 * 1))), qc - 128)), ⟨by dsimp only; omega, by dsimp only; omega⟩, by dsimp only; omega, ?_⟩
          dsimp only
          rw [show P.length - (c + 1) * 128 = P.length - c * 128 - 128 by omega, ← ints_more]
          exact ⟨(by repeat' constructor), _, (by repeat' constructor)⟩
        · refine WC.exit ?_
          refine WC.seq ?_
          refine WC.region ?_
          refine WL.y (Yl.assign rfl) rfl ?_
          refine WL.nil ?_
          refine WC.seq ?_
          refine WC.seq ?_
          refine WC.region ?_
          obtain ⟨HH, hHH⟩ : ∃ HH, bkF .u64 64 8 80 T ks H0 P c = HH := ⟨_, rfl⟩
          have hHl : HH.length = 8 := by rw [← hHH, bkF_len, hH]
          rw [hHH]
          refine WL.y (Yl.move rfl) rfl ?_
          refine WL.y (Yl.nilCheck rfl) rfl ?_
          refine WL.y (Yl.field fo180_0 rfl) rfl ?_
          refine WL.y (Yl.loadS on156 rfl hm (by rfl)) rfl ?_
          refine WL.y (Yl.len un156 rfl) rfl ?_
          refine WL.y (Yl.move rfl) rfl ?_
          refine WL.nil ?_
          refine WC.block ?_
          refine WC.view (fun w h => h.addNil 5 1) ?_
          refine WC.loop (α := Nat × (Option Addr × Nat)) (fun q => [(0, .pointer (some ⟨m, 0, none⟩)), (110, .slice ho 8 hc), (111, .int .i64 8), (112, .int .i64 (q.1 : Int)), (12, .slice q.2.1 (q.1 * 8) q.2.2)]) (fun q => [ownR (.slice q.2.1 (q.1 * 8) q.2.2) 5 1 (q.1 * 8) (ints .u8 (dgF 8 (HH.take q.1))), ownR (.slice ho 8 hc) 122 1 8 (ints .u64 HH)]) (fun q => q.1 ≤ 8) (fun q => 8 - q.1) (0, (none, 0)) (Nat.zero_le _) ⟨(by repeat' constructor), _, (by repeat' constructor)⟩ ?_
          rintro ⟨i6, ⟨do6, dc6⟩⟩ hi6
          dsimp only at hi6 ⊢
          refine WC.seq ?_
          refine WC.region ?_
          refine WL.y (Yl.lss rfl rfl) rfl ?_
          refine WL.nil ?_
          refine WC.seq ?_
          refine WC.condD rfl (fun g113 => ?_) (fun g113 => ?_)
          · refine WC.skip ?_
            refine WC.seq ?_
            refine WC.block ?_
            refine WC.seq ?_
            refine WC.region ?_
            refine WL.y (Yl.index un156 sz122 rfl rfl (Reads.of RdOf.own (by repeat constructor)) rfl (by omega)) rfl ?_
            refine WL.y (Yl.loadE on122 rfl (Reads.of RdOf.own (by repeat constructor)) (ints_get _ HH i6 (by omega))) rfl ?_
            refine WL.y (Yl.assign rfl) rfl ?_
            refine WL.nil ?_
            refine WC.seq ?_
            refine WC.region ?_
            refine WL.y (Yl.move rfl) rfl ?_
            refine WL.y (Yl.nilCheck rfl) rfl ?_
            refine WL.y (Yl.field fo180_2 rfl) rfl ?_
            refine WL.y (Yl.loadS on3 rfl hm (by rfl)) rfl ?_
            refine WL.y (Yl.sub rfl rfl (IntWalk.i64_in _ (by omega))) rfl ?_
            refine WL.y (Yl.assign rfl) rfl ?_
            refine WL.nil ?_
            refine WC.block ?_
            refine WC.loop (α := Nat × (Option Addr × Nat)) (fun q => [(0, .pointer (some ⟨m, 0, none⟩)), (110, .slice ho 8 hc), (111, .int .i64 8), (112, .int .i64 (i6 : Int)), (14, .int .u64 (HH.getD i6 0)), (15, .int .i64 (8 - 1 - (q.1 : Int))), (12, .slice q.2.1 (i6 * 8 + q.1) q.2.2)]) (fun q => [ownR (.slice q.2.1 (i6 * 8 + q.1) q.2.2) 5 1 (i6 * 8 + q.1) (ints .u8 (dgF 8 (HH.take i6) ++ wdF 8 (HH.getD i6 0) q.1)), ownR (.slice ho 8 hc) 122 1 8 (ints .u64 HH)]) (fun q => q.1 ≤ 8) (fun q => 8 - q.1) (0, (do6, dc6)) (Nat.zero_le _) ⟨(by repeat' constructor), _, (by rw [show wdF 8 (HH.getD i6 0) 0 = [] from rfl, List.append_nil]; exact (by repeat' constructor))⟩ ?_
            rintro ⟨j7, ⟨eo, ec⟩⟩ hj7
            dsimp only at hj7 ⊢
            refine WC.seq ?_
            refine WC.seq ?_
            refine WC.region ?_
            refine WL.y (Yl.move rfl) rfl ?_
            refine WL.y (Yl.geq rfl rfl) rfl ?_
            refine WL.nil ?_
            refine WC.condD rfl (fun g122 => ?_) (fun g122 => ?_)
            · refine WC.skip ?_
              refine WC.seq ?_
              refine WC.block ?_
              refine WC.region ?_
              refine WL.y (Yl.move rfl) rfl ?_
              refine WL.y (Yl.move rfl) rfl ?_
              refine WL.y (Yl.move rfl) rfl ?_
              refine WL.y (Yl.mul rfl rfl (IntWalk.i64_in _ (by omega))) rfl ?_
              refine WL.y (Yl.shr rfl rfl ⟨by omega, (by simp [IntKind.bits]; try omega)⟩ rfl) rfl ?_
              refine WL.y (Yl.conv un122 un5 rfl rfl) rfl ?_
              refine WL.to (To.buildSlice (vs := [.int .u8 (IntKind.u8.wrap (HH.getD i6 0 / 2 ^ (8 * (((8 : Nat) : Int) - 1 - (j7 : Int))).toNat))]) un54 zs5 rfl rfl (by simp [Value.cells]) (by decide) (by decide)) rfl ?_
              intro b131
              refine WL.to (To.append sl54 rfl rfl (by repeat constructor) (Reads.of (RdOf.blk (size := 1) (cs := [.int .u8 (IntKind.u8.wrap (HH.getD i6 0 / 2 ^ (8 * (((8 : Nat) : Int) - 1 - (j7 : Int))).toNat))]) (cs' := [.int .u8 (IntKind.u8.wrap (HH.getD i6 0 / 2 ^ (8 * (((8 : Nat) : Int) - 1 - (j7 : Int))).toNat))]) (Nat.le_refl _) (by unfold maxLen; omega) (by simp) rfl) (by repeat constructor)) (by intro v hv; rw [List.mem_singleton.1 hv]; rfl) rfl (show _ = ints .u8 (dgF 8 (HH.take i6) ++ wdF 8 (HH.getD i6 0) (j7 + 1)) by rw [ints_snoc, wdF_succ, List.append_assoc]) (by unfold maxLen; omega) (by omega)) rfl ?_
              rintro ⟨⟨ao132, c132⟩, hc132⟩
              dsimp only at hc132 ⊢
              refine WL.y (Yl.assign rfl) rfl ?_
              refine WL.nil ?_
              refine WC.region ?_
              refine WL.y (Yl.move rfl) rfl ?_
              refine WL.y (Yl.sub rfl rfl (IntWalk.i64_in _ (by omega))) rfl ?_
              refine WL.say (t := 124) (v' := .int .i64 (8 - 1 - ((j7 + 1 : Nat) : Int))) rfl (by (refine congrArg _ ?_; omega)) ?_
              refine WL.y (Yl.assign rfl) rfl ?_
              refine WL.nil ?_
              exact ⟨rfl, (j7 + 1, ao132, c132), by dsimp only; omega, by dsimp only; omega, (by repeat' constructor), _, (by repeat' constructor)⟩
            · refine WC.exit ?_
              refine WC.region ?_
              refine WL.y (Yl.add rfl rfl (IntWalk.i64_in _ (by omega))) rfl ?_
              refine WL.y (Yl.move rfl) rfl ?_
              refine WL.nil ?_
              have hj8 : j7 = 8 := by omega
              subst hj8
              refine ⟨rfl, (i6 + 1, eo, ec), by dsimp only; omega, by dsimp only; omega, ?_⟩
              dsimp only
              rw [dgF_snoc 8 (by omega), Nat.succ_mul]
              exact ⟨(by repeat' constructor), _, (by repeat' constructor)⟩
          · refine WC.exit ?_
            refine WC.seq ?_
            refine WC.region ?_
            refine WL.y (Yl.move rfl) rfl ?_
            refine WL.y (Yl.assign rfl) rfl ?_
            refine WL.nil ?_
            refine WC.ret ?_
            repeat (with_reducible (first | refine peelT ?_ | refine peelB ?_ | refine peelTX ?_ | refine peelBX ?_ | refine peelBN ?_ | refine peelBO rfl ?_))
            have hi8 : i6 = 8 := by omega
            subst hi8
            have e : sumF .u64 64 8 80 T ks H0 ls.flatten = dgF 8 HH := by
              unfold sumF
              rw [hmsg2, hP, show P.length / (16 * 8) = c by omega, hHH]
            rw [e]
            exact ret1 (.inr rfl) Tryz.results88 rfl fun w' h => ⟨(do6, dc6), trivial, rfl, by rw [List.take_of_length_le (by omega)] at h; exact h.sub (by repeat' constructor)⟩
end Go.Proofs.YtcplbkbimpiioaaGreatDoor

namespace Go.Proofs.YtcplbkbimpiioaaGreatDoor
open Go Go.RowKit

def sum512 (msg : List Int) : List Int := sumF .u64 64 8 80 tn64 const64 first64 msg
theorem sum512_len (msg : List Int) : (sum512 msg).length = 64 := by
  unfold sum512 sumF
  rw [dgF_len, bkF_len]
  rfl
theorem putAll {ys zs : List Value} {n : Nat} (h : zs.length = n) : zs.take 0 ++ ys ++ zs.drop (0 + n) = ys := by
  rw [List.drop_of_length_le (by omega)]
  simp

theorem sum512_any (ls : List (List Int)) (vs : List Value) (lv : Value) (hvl : vs.length = ls.length) (htot : ls.flatten.length ≤ 100000) (hmany : ls.length ≤ 100000) (w : World)
    (hlv : RdS w (fpL []) lv 1 ls.length vs) (hls : ∀ (i : Nat) v bs, vs[i]? = some v → ls[i]? = some bs → RdS w (fpL []) v 1 bs.length (ints .u8 bs)) (hw : OK w (fpL []) [] w) :
    Fn Tryz.prog 64 [lv] [] w (fun _ : Unit => True) (fun _ => .agg (ints .u8 (sum512 ls.flatten)).toArray) (fun _ => []) := by
  have hl : (ints .u8 (sum512 ls.flatten)).length = 64 := by rw [ints_length, sum512_len]
  refine enterF Tryz.func64 rfl Tryz.ntmps64 rfl hw ?_
  refine WC.seq ?_
  refine WC.region ?_
  refine WL.to (To.alloc zr117 rfl) rfl ?_
  intro b2
  refine WL.nil ?_
  refine WC.seq ?_
  refine WC.region ?_
  refine WL.callC (xs := []) (cap := []) rfl rfl en87 (by repeat' constructor) (fun w hw => wide_any w hw.left.here) rfl ?_
  rintro ⟨mb, ⟨ah, ch⟩, ⟨ak, ck⟩⟩ -
  dsimp only [machR, List.cons_append, List.nil_append]
  refine WL.y (Yl.move rfl) rfl ?_
  refine WL.callC (xs := [.tmp 3, .tmp 4]) (cap := []) rfl rfl en88 (by repeat' constructor) (fun w hw => sum64_any mb ah ak ch ck tn64 tn64_ok first64 const64 ls vs lv rfl rfl hvl htot hmany w (hw.srcB (A := [_]) (by repeat constructor)) (hw.src (A := [_]) RdOf.own (by repeat constructor)) (hw.srcS (A := [_]) hlv) (fun i v bs h1 h2 => hw.srcS (A := [_]) (hls i v bs h1 h2)) hw.left.here) rfl ?_
  rintro ⟨a5, c5⟩ -
  dsimp only [List.cons_append, List.nil_append]
  refine WL.y (Yl.arrAt un117 rfl (by omega)) rfl ?_
  refine WL.y (Yl.loadArr (cs := ints .u8 (sum512 ls.flatten)) (cs' := ints .u8 (sum512 ls.flatten)) ag117 (by omega) rfl (Reads.of (RdOf.own (v := .slice a5 (8 * 8) c5) (e := 5)) (by repeat constructor)) (by omega) (List.take_of_length_le (by omega))) rfl ?_
  refine WL.sto (Sto.agg sz117 rfl rfl (by repeat constructor) (ints_one _ _) hl (by rfl) (putAll rfl)) (fun _ h => nomatch h) ?_
  refine WL.nil ?_
  refine WC.ret ?_
  repeat (with_reducible (first | refine peelT ?_ | refine peelB ?_ | refine peelTX ?_ | refine peelBX ?_ | refine peelBN ?_ | refine peelBO rfl ?_))
  exact retC1 (.inr rfl) Tryz.results64 ag117 rfl (by repeat constructor) hl fun w' h => ⟨(), trivial, rfl, h.sub (by repeat' constructor)⟩

end Go.Proofs.YtcplbkbimpiioaaGreatDoor
