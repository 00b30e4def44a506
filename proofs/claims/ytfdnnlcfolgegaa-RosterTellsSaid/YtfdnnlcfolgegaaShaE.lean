/- The two machines, as they are made: the walks. -/
import Derived.Test.YtfdnnlcfolgegaaShaD
namespace Go.Proofs.Ytfdnnlcfolgegaa
open Go Go.RowKit
theorem RdS.len {w : World} {T : Pm} {v : Value} {n m : Nat} {cs : List Value} (h : RdS w T v 1 n cs) (e : n = m) : RdS w T v 1 m cs := e ▸ h
def k32 : List Int := upF (const64.take 64)
def h32 : List Int := upF first64
/-- A machine with its rows. -/
def machR (b : Nat) (MT W : TypeId) (k : IntKind) (z : Int) (T : Tn) (ao ak : Option Addr) (ca ck nr : Nat) (H ks : List Int) : List Res :=
  [blkR b MT (mC (.slice ao 8 ca) (.slice ak nr ck) z T), ownR (.slice ao 8 ca) W 1 8 (ints k H), ownR (.slice ak nr ck) W 1 nr (ints k ks)]

theorem narrow_any (w : World) (hw : OK w (fpL []) [] w) : Fn Try.prog 63 [] [] w (fun _ : Nat × (Option Addr × Nat) × (Option Addr × Nat) => True) (fun y => .pointer (some ⟨y.1, 0, none⟩))
    (fun y => machR y.1 121 103 .u32 4 tn32 y.2.1.1 y.2.2.1 y.2.1.2 y.2.2.2 64 h32 k32) := by
  refine enterF Try.func63 rfl Try.ntmps63 rfl hw ?_
  refine WC.seq ?_
  refine WC.region ?_
  refine WL.y (Yl.assign rfl) rfl ?_ -- t0
  refine WL.nil ?_
  refine WC.seq ?_
  refine WC.region ?_
  refine WL.callC (xs := []) (cap := []) rfl rfl en78 (by repeat (first | exact TakeL.nil | (apply TakeL.cons; · repeat (first | exact Take1.head | apply Take1.tail)))) (fun w hw => first_any w hw.left.here) rfl ?_ -- t1 hailer/sha.first
  rintro b1 -
  refine WL.callC (xs := [.tmp 1]) (cap := []) rfl rfl en77 (by repeat (first | exact TakeL.nil | (apply TakeL.cons; · repeat (first | exact Take1.head | apply Take1.tail)))) (fun w hw => upper_any first64 _ (leN rfl) w ((hw.src (A := []) RdOf.own (by repeat (first | exact Take1.head | apply Take1.tail))).len rfl) hw.left.here) rfl ?_ -- t2 hailer/sha.upper
  rintro ⟨a2, c2⟩ -
  dsimp only
  rw [show first64.length = 8 from rfl]
  refine WL.callC (xs := []) (cap := []) rfl rfl en79 (by repeat (first | exact TakeL.nil | (apply TakeL.cons; · repeat (first | exact Take1.head | apply Take1.tail)))) (fun w hw => consts_any w hw.left.here) rfl ?_ -- t3 hailer/sha.constants
  rintro b3 -
  refine WL.y (Yl.slice (h := 64) un97 sz24 rfl rfl ⟨_, rfl⟩ (by omega) (by omega)) rfl ?_ -- t4
  refine WL.callC (xs := [.tmp 4]) (cap := []) rfl rfl en77 (by repeat (first | exact TakeL.nil | (apply TakeL.cons; · repeat (first | exact Take1.head | apply Take1.tail)))) (fun w hw => upper_any (const64.take 64) _ (leN rfl) w ((hw.src (A := []) ((RdOf.own (v := .slice (some ⟨b3, 0, none⟩) 80 80)).sub (l := 0) (h := 64) (by omega) (by omega) (cs' := ints .u64 (const64.take 64)) rfl) (by repeat (first | exact Take1.head | apply Take1.tail))).len rfl) hw.left.here) rfl ?_ -- t5 hailer/sha.upper
  rintro ⟨a5, c5⟩ -
  dsimp only
  rw [show (const64.take 64).length = 64 from rfl]
  refine WL.y (Yl.build rfl (cs := three 2 13 22) (fun _ => by kernel_rfl)) rfl ?_ -- t6
  refine WL.y (Yl.build rfl (cs := three 6 11 25) (fun _ => by kernel_rfl)) rfl ?_ -- t7
  refine WL.y (Yl.build rfl (cs := three 7 18 3) (fun _ => by kernel_rfl)) rfl ?_ -- t8
  refine WL.y (Yl.build rfl (cs := three 17 19 10) (fun _ => by kernel_rfl)) rfl ?_ -- t9
  refine WL.y (Yl.build rfl (cs := three 2 13 22 ++ three 6 11 25 ++ three 7 18 3 ++ three 17 19 10) (fun _ => by kernel_rfl)) rfl ?_ -- t10
  refine WL.y (Yl.build rfl (cs := mC (.slice a2 8 c2) (.slice a5 64 c5) 4 tn32) (fun _ => by kernel_rfl)) rfl ?_ -- t11
  refine WL.to (To.box (cs := mC (.slice a2 8 c2) (.slice a5 64 c5) 4 tn32) rfl rfl) rfl ?_ -- t12
  intro b12
  refine WL.y (Yl.assign rfl) rfl ?_ -- t0
  refine WL.nil ?_
  refine WC.ret ?_
  repeat (first | (with_reducible refine peelT ?_) | (with_reducible refine peelB ?_) | (with_reducible refine peelTX ?_) | (with_reducible refine peelBX ?_) | (with_reducible refine peelBN ?_) | (with_reducible refine peelBO rfl ?_))
  exact ret1 (.inr rfl) Try.results63 rfl fun w' h => ⟨(b12, (a2, c2), (a5, c5)), trivial, rfl, OK.sub h (B := [blkR b12 121 (mC (.slice a2 8 c2) (.slice a5 64 c5) 4 tn32), ownR (.slice a2 8 c2) 103 1 8 (ints .u32 h32), ownR (.slice a5 64 c5) 103 1 64 (ints .u32 k32)]) (by repeat (first | exact TakeL.nil | (apply TakeL.cons; · repeat (first | exact Take1.head | apply Take1.tail))))⟩

end Go.Proofs.Ytfdnnlcfolgegaa
