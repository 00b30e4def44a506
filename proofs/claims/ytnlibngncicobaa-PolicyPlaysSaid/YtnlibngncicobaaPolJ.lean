/- Policies: rules taken of bytes; Load: the walks. -/
import Derived.Test.YtnlibngncicobaaPolI
import Derived.Test.YtnlibngncicobaaWireC
namespace Go.Proofs.Ytnlibngncicobaa
open Go Go.RowKit
def c1B (B : List Int) (W : Bool) : List Int := tkB 1 B W
def c1W (B : List Int) (W : Bool) : Bool := tkW 1 B W
def c2B (B : List Int) (W : Bool) : List Int := tkB 4 (c1B B W) (c1W B W)
def c2W (B : List Int) (W : Bool) : Bool := tkW 4 (c1B B W) (c1W B W)
def c3B (B : List Int) (W : Bool) : List Int := tkB 4 (c2B B W) (c2W B W)
def c3W (B : List Int) (W : Bool) : Bool := tkW 4 (c2B B W) (c2W B W)
def c4B (B : List Int) (W : Bool) : List Int := tkB 1 (c3B B W) (c3W B W)
def c4W (B : List Int) (W : Bool) : Bool := tkW 1 (c3B B W) (c3W B W)
def c5B (B : List Int) (W : Bool) : List Int := tkB 1 (c4B B W) (c4W B W)
def c5W (B : List Int) (W : Bool) : Bool := flW (c4B B W) (c4W B W)
def cAc (B : List Int) (W : Bool) : Int := val (tkR 1 B W)
def cFr (B : List Int) (W : Bool) : Int := val (tkR 4 (c1B B W) (c1W B W))
def cTo (B : List Int) (W : Bool) : Int := val (tkR 4 (c2B B W) (c2W B W))
def cDo (B : List Int) (W : Bool) : Int := val (tkR 1 (c3B B W) (c3W B W))
def cAg (B : List Int) (W : Bool) : Bool := flR (c4B B W) (c4W B W)
/-- The rule that is taken; is its time wider than a day? -/
def cRu (B : List Int) (W : Bool) : Ru := ⟨cAc B W, IntKind.u16.wrap (cFr B W), IntKind.u16.wrap (cTo B W), cDo B W, cAg B W⟩
def cX (B : List Int) (W : Bool) : Bool := decide (1440 ≤ (if cFr B W < cTo B W then cTo B W else cFr B W))
theorem cRu_ok {B : List Int} (hB : Bytes B) (W : Bool) : (cRu B W).ok := by
  have h1 := val1 hB W
  have h2 := val1 (((hB.tkB 1 W).tkB 4 (c1W B W)).tkB 4 (c2W B W)) (c3W B W)
  have h3 := u16_rng (cFr B W)
  have h4 := u16_rng (cTo B W)
  refine ⟨⟨h1.1, ?_⟩, h3, h4, ⟨h2.1, ?_⟩⟩
  · show val (tkR 1 B W) < 256
    omega
  · show cDo B W < 256
    have : cDo B W ≤ 255 := h2.2
    omega
/-- Rules taken, so many; the bytes behind them, whether something is wrong, or wide. -/
def tlr : Nat → List Int → Bool → Bool → List Ru × List Int × Bool × Bool
  | 0, B, W, X => ([], B, W, X)
  | _ + 1, B, true, X => ([], B, true, X)
  | n + 1, B, false, X => (cRu B false :: (tlr n (c5B B false) (c5W B false) (X || cX B false)).1, (tlr n (c5B B false) (c5W B false) (X || cX B false)).2)
theorem tlr_wr (n : Nat) (B : List Int) (X : Bool) : tlr n B true X = ([], B, true, X) := by cases n <;> rfl
section
variable (b : Nat) (ao : Option Addr) (cap : Nat) (B : List Int) (W : Bool) (r : Res) (hr : RdOf r (.slice ao B.length cap) 1 B.length (ints .u8 B)) (hc : B.length ≤ cap) (hB : Bytes B) (bx : Nat) (X : Bool) (w : World) (hw : OK w (fpL [inR b (.slice ao B.length cap) W, r, blkR bx 4 [.bool X]]) [inR b (.slice ao B.length cap) W, r, blkR bx 4 [.bool X]] w)
include hr hc hB hw
set_option maxRecDepth 100000 in
theorem ld1_any : Fn Try.prog 45 [.pointer (some ⟨b, 0, none⟩), .pointer (some ⟨bx, 0, none⟩)] [inR b (.slice ao B.length cap) W, r, blkR bx 4 [.bool X]] w (fun x : Option Addr × Nat => RdOf r (.slice x.1 (c5B B W).length x.2) 1 (c5B B W).length (ints .u8 (c5B B W)) ∧ (c5B B W).length ≤ x.2) (fun _ => ruV (cRu B W)) (fun x => [inR b (.slice x.1 (c5B B W).length x.2) (c5W B W), r, blkR bx 4 [.bool (X || cX B W)]]) := by
  have h1B : Bytes (c1B B W) := hB.tkB 1 W
  have h2B : Bytes (c2B B W) := h1B.tkB 4 (c1W B W)
  have h3B : Bytes (c3B B W) := h2B.tkB 4 (c2W B W)
  have h4B : Bytes (c4B B W) := h3B.tkB 1 (c3W B W)
  refine enterF Try.func45 rfl Try.ntmps45 rfl hw ?_
  refine WC.seq ?_
  refine WC.region ?_
  refine WL.to (To.alloc (cs := Ru.zero.cells) zr24 rfl) rfl ?_
  intro b3
  refine WL.nil ?_
  refine WC.seq ?_
  refine WC.region ?_
  refine WL.y (Yl.move rfl) rfl ?_
  refine WL.callC (xs := [.tmp 7]) (cap := []) rfl rfl en43 (by repeat (first | exact TakeL.nil | (apply TakeL.cons; · repeat (first | exact Take1.head | apply Take1.tail)))) (fun w hw => inU8_any b ao cap B W r hr hc hB w hw.left.here) rfl ?_
  rintro ⟨a1, k1⟩ ⟨r1, hc1⟩
  change RdOf r (.slice a1 (c1B B W).length k1) 1 (c1B B W).length (ints .u8 (c1B B W)) at r1
  change (c1B B W).length ≤ k1 at hc1
  dsimp only [List.cons_append, List.nil_append]
  rw [show tkB 1 B W = c1B B W from rfl, show tkW 1 B W = c1W B W from rfl, show val (tkR 1 B W) = cAc B W from rfl]
  refine WL.y (Yl.move rfl) rfl ?_
  refine WL.callC (xs := [.tmp 9]) (cap := []) rfl rfl en46 (by repeat (first | exact TakeL.nil | (apply TakeL.cons; · repeat (first | exact Take1.head | apply Take1.tail)))) (fun w hw => inU32_any b a1 k1 (c1B B W) (c1W B W) r r1 hc1 h1B w hw.left.here) rfl ?_
  rintro ⟨a2, k2⟩ ⟨r2, hc2⟩
  change RdOf r (.slice a2 (c2B B W).length k2) 1 (c2B B W).length (ints .u8 (c2B B W)) at r2
  change (c2B B W).length ≤ k2 at hc2
  dsimp only [List.cons_append, List.nil_append]
  rw [show tkB 4 (c1B B W) (c1W B W) = c2B B W from rfl, show tkW 4 (c1B B W) (c1W B W) = c2W B W from rfl, show val (tkR 4 (c1B B W) (c1W B W)) = cFr B W from rfl]
  refine WL.y (Yl.move rfl) rfl ?_
  refine WL.callC (xs := [.tmp 11]) (cap := []) rfl rfl en46 (by repeat (first | exact TakeL.nil | (apply TakeL.cons; · repeat (first | exact Take1.head | apply Take1.tail)))) (fun w hw => inU32_any b a2 k2 (c2B B W) (c2W B W) r r2 hc2 h2B w hw.left.here) rfl ?_
  rintro ⟨a3, k3⟩ ⟨r3, hc3⟩
  change RdOf r (.slice a3 (c3B B W).length k3) 1 (c3B B W).length (ints .u8 (c3B B W)) at r3
  change (c3B B W).length ≤ k3 at hc3
  dsimp only [List.cons_append, List.nil_append]
  rw [show tkB 4 (c2B B W) (c2W B W) = c3B B W from rfl, show tkW 4 (c2B B W) (c2W B W) = c3W B W from rfl, show val (tkR 4 (c2B B W) (c2W B W)) = cTo B W from rfl]
  refine WL.y (Yl.assign rfl) rfl ?_
  refine WL.y (Yl.assign rfl) rfl ?_
  refine WL.y (Yl.assign rfl) rfl ?_
  refine WL.nil ?_
  refine WC.midE (α := Unit) (fun _ => []) (fun _ => [inR b (.slice a3 (c3B B W).length k3) (c3W B W), r, blkR b3 24 Ru.zero.cells, blkR bx 4 [.bool (X || cX B W)]]) (fun _ => True) ?_ ?_
  · refine WC.region ?_
    refine WL.y (Yl.load on4 rfl (by repeat (first | exact Take1.head | apply Take1.tail)) (by rfl)) rfl ?_
    refine WL.y (Yl.move rfl) rfl ?_
    refine WL.both (t := 14) rfl (fun g14 => ?_) (fun g14 => ?_)
    · refine WL.off rfl rfl rfl rfl ?_
      refine WL.off rfl rfl rfl rfl ?_
      refine WL.off rfl rfl rfl rfl ?_
      refine WL.off rfl rfl rfl rfl ?_
      refine WL.y (Yl.pickT rfl rfl) rfl ?_
      refine WL.sto (Sto.one sz4 rfl rfl (by repeat (first | exact Take1.head | apply Take1.tail)) rfl (by rfl) (by rfl)) (fun _ h => nomatch h) ?_
      refine WL.nil ?_
      have e : X = true := by simpa using g14
      subst e
      exact ⟨rfl, (), trivial, (by repeat (first | exact Sub.nil | refine Sub.cons rfl ?_)), (by repeat (first | exact Sub.nil | refine Sub.cons rfl ?_)), _, (by repeat (first | exact TakeL.nil | (apply TakeL.cons; · repeat (first | exact Take1.head | apply Take1.tail))))⟩
    · refine WL.on rfl rfl ?_
      refine WL.y (Yl.move rfl) rfl ?_
      refine WL.on rfl rfl ?_
      refine WL.y (Yl.move rfl) rfl ?_
      refine WL.on rfl rfl ?_
      refine WL.y (Yl.max2 rfl rfl) rfl ?_
      refine WL.on rfl rfl ?_
      refine WL.y (Yl.geq rfl rfl) rfl ?_
      refine WL.y (Yl.pickF rfl rfl) rfl ?_
      refine WL.sto (Sto.one sz4 rfl rfl (by repeat (first | exact Take1.head | apply Take1.tail)) rfl (by rfl) (by rfl)) (fun _ h => nomatch h) ?_
      refine WL.nil ?_
      have e : X = false := by simpa using g14
      subst e
      exact ⟨rfl, (), trivial, (by repeat (first | exact Sub.nil | refine Sub.cons rfl ?_)), (by repeat (first | exact Sub.nil | refine Sub.cons rfl ?_)), _, (by repeat (first | exact TakeL.nil | (apply TakeL.cons; · repeat (first | exact Take1.head | apply Take1.tail))))⟩
  · rintro ⟨⟩ -
    refine WC.seq ?_
    refine WC.region ?_
    refine WL.y (Yl.move rfl) rfl ?_
    refine WL.y (Yl.move rfl) rfl ?_
    refine WL.y (Yl.conv un95 un22 rfl rfl) rfl ?_
    refine WL.y (Yl.move rfl) rfl ?_
    refine WL.y (Yl.conv un95 un22 rfl rfl) rfl ?_
    refine WL.y (Yl.move rfl) rfl ?_
    refine WL.callC (xs := [.tmp 25]) (cap := []) rfl rfl en43 (by repeat (first | exact TakeL.nil | (apply TakeL.cons; · repeat (first | exact Take1.head | apply Take1.tail)))) (fun w hw => inU8_any b a3 k3 (c3B B W) (c3W B W) r r3 hc3 h3B w hw.left.here) rfl ?_
    rintro ⟨a4, k4⟩ ⟨r4, hc4⟩
    change RdOf r (.slice a4 (c4B B W).length k4) 1 (c4B B W).length (ints .u8 (c4B B W)) at r4
    change (c4B B W).length ≤ k4 at hc4
    dsimp only [List.cons_append, List.nil_append]
    rw [show tkB 1 (c3B B W) (c3W B W) = c4B B W from rfl, show tkW 1 (c3B B W) (c3W B W) = c4W B W from rfl, show val (tkR 1 (c3B B W) (c3W B W)) = cDo B W from rfl]
    refine WL.y (Yl.move rfl) rfl ?_
    refine WL.callC (xs := [.tmp 27]) (cap := []) rfl rfl en47 (by repeat (first | exact TakeL.nil | (apply TakeL.cons; · repeat (first | exact Take1.head | apply Take1.tail)))) (fun w hw => inFlag_any b a4 k4 (c4B B W) (c4W B W) r r4 hc4 h4B w hw.left.here) rfl ?_
    rintro ⟨a5, k5⟩ ⟨r5, hc5⟩
    change RdOf r (.slice a5 (c5B B W).length k5) 1 (c5B B W).length (ints .u8 (c5B B W)) at r5
    change (c5B B W).length ≤ k5 at hc5
    dsimp only [List.cons_append, List.nil_append]
    rw [show tkB 1 (c4B B W) (c4W B W) = c5B B W from rfl, show flW (c4B B W) (c4W B W) = c5W B W from rfl, show flR (c4B B W) (c4W B W) = cAg B W from rfl]
    refine WL.y (Yl.build rfl (cs := (cRu B W).cells) (fun _ => by kernel_rfl)) rfl ?_
    refine WL.sto (Sto.agg sz24 rfl rfl (by repeat (first | exact Take1.head | apply Take1.tail)) (Ru.ones _) (Ru.len _) (by rfl) (Ru.all Ru.zero (cRu B W).cells (Ru.len _))) (fun _ h => nomatch h) ?_
    refine WL.nil ?_
    refine WC.ret ?_
    repeat (first | (with_reducible refine peelT ?_) | (with_reducible refine peelB ?_) | (with_reducible refine peelTX ?_) | (with_reducible refine peelBX ?_) | (with_reducible refine peelBN ?_) | (with_reducible refine peelBO rfl ?_))
    exact retC1 (cs := (cRu B W).cells) (.inr rfl) Try.results45 ag24 rfl (by repeat (first | exact Take1.head | apply Take1.tail)) (Ru.len _) fun w' h => ⟨(a5, k5), ⟨r5, hc5⟩, rfl, h.sub (by repeat (first | exact TakeL.nil | (apply TakeL.cons; · repeat (first | exact Take1.head | apply Take1.tail))))⟩
end
end Go.Proofs.Ytnlibngncicobaa
