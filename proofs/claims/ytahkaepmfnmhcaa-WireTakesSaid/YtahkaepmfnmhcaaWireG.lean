/- Fields that are taken: plain laws; resources held together. -/
import Derived.Test.YtahkaepmfnmhcaaWireE
namespace Go.Proofs.Ytahkaepmfnmhcaa
open Go Go.RowKit

theorem OK.joinA {w0 : World} {S : Pm} {A F : List Res} {w : World} (h : OK w0 S (A ++ F) w) : OK w0 S (allR A :: F) w := by
  refine OK.upd (A := A) (B := [allR A]) (F := F) h ⟨Chg.refl _ _, ?_, ?_, ?_, List.pairwise_singleton _ _⟩
  · intro r hr; rw [List.mem_singleton.1 hr]; exact fun q hq => h.all q (List.mem_append_left _ hq)
  · intro r hr k hk; rw [List.mem_singleton.1 hr] at hk; exact hk.elim
  · intro r hr k hk _; rw [List.mem_singleton.1 hr] at hk; exact hk
theorem OK.join {w0 : World} {S : Pm} {H A F : List Res} {w : World} (h : OK w0 S H w) (t : TakeL H A F) : OK w0 S (allR A :: F) w := OK.joinA (h.perm t.perm)
theorem OK.addNone {w0 : World} {S : Pm} {H : List Res} {w : World} (h : OK w0 S H w) : OK w0 S (allR [] :: H) w := OK.joinA (A := []) h
theorem RdOf.mono {r s : Res} {v : Value} {size n : Nat} {cs : List Value} (h : RdOf r v size n cs) (hm : ∀ w, s.ok w → r.ok w) : RdOf s v size n cs := ⟨fun w hw => h.rd w (hm w hw)⟩
theorem RdOf.nothing {r : Res} {size : Nat} : RdOf r (.slice none 0 0) size 0 [] := ⟨fun w _ => Rd.nil w size⟩

/-- Numbers that are taken one by one. -/
def tkl : Nat → List Int → Bool → List Int × List Int × Bool
  | 0, B, W => ([], B, W)
  | _ + 1, B, true => ([], B, true)
  | n + 1, B, false => (val (tkR 4 B false) :: (tkl n (tkB 4 B false) (tkW 4 B false)).1, (tkl n (tkB 4 B false) (tkW 4 B false)).2)
theorem tkl_wr (n : Nat) (B : List Int) : tkl n B true = ([], B, true) := by cases n <;> rfl
/-- A list of them. -/
def tlN (B : List Int) (W : Bool) (most : Int) : Nat := if mnW B W most then 0 else szK B W
def tlS (B : List Int) (W : Bool) (most : Int) : List Int × List Int × Bool := tkl (tlN B W most) (tkB 2 B W) (mnW B W most)
def tlL (B : List Int) (W : Bool) (most : Int) : List Int := if (tlS B W most).2.2 then [] else (tlS B W most).1

def tkF (f : Fd) (B : List Int) (W : Bool) : Fd × List Int × Bool :=
  if f.kind = 0 then (Fd.mk f.kind (val (tkR 1 B W)) none 0 [] none 0 [] f.most, tkB 1 B W, tkW 1 B W)
  else if f.kind = 1 then (Fd.mk f.kind (val (tkR 4 B W)) none 0 [] none 0 [] f.most, tkB 4 B W, tkW 4 B W)
  else if f.kind = 2 then (Fd.mk f.kind (val (tkR 8 B W)) none 0 [] none 0 [] f.most, tkB 8 B W, tkW 8 B W)
  else if f.kind = 3 then (Fd.mk f.kind (if flR B W then 1 else 0) none 0 [] none 0 [] f.most, tkB 1 B W, flW B W)
  else if f.kind = 4 then (Fd.mk f.kind 0 none 0 (tkR f.b.length B W) none 0 [] f.most, tkB f.b.length B W, tkW f.b.length B W)
  else if f.kind = 5 then (Fd.mk f.kind 0 none 0 (tkR (szK B W) (tkB 2 B W) (mnW B W f.most)) none 0 [] f.most, tkB (szK B W) (tkB 2 B W) (mnW B W f.most), tkW (szK B W) (tkB 2 B W) (mnW B W f.most))
  else if f.kind = 6 then (Fd.mk f.kind 0 none 0 [] none 0 (tlL B W f.most) f.most, (tlS B W f.most).2.1, (tlS B W f.most).2.2)
  else (Fd.mk f.kind 0 none 0 [] none 0 [] f.most, B, W)
def tks : List Fd → List Int → Bool → List Fd × List Int × Bool
  | [], B, W => ([], B, W)
  | f :: fs, B, W => ((tkF f B W).1 :: (tks fs (tkF f B W).2.1 (tkF f B W).2.2).1, (tks fs (tkF f B W).2.1 (tkF f B W).2.2).2)
theorem tks_snoc : ∀ (fs : List Fd) (f : Fd) (B : List Int) (W : Bool), tks (fs ++ [f]) B W = ((tks fs B W).1 ++ [(tkF f (tks fs B W).2.1 (tks fs B W).2.2).1], (tkF f (tks fs B W).2.1 (tks fs B W).2.2).2)
  | [], f, B, W => by simp [tks]
  | g :: fs, f, B, W => by
    show ((tkF g B W).1 :: (tks (fs ++ [f]) (tkF g B W).2.1 (tkF g B W).2.2).1, (tks (fs ++ [f]) (tkF g B W).2.1 (tkF g B W).2.2).2) = _
    rw [tks_snoc fs f]
    rfl
theorem tks_len : ∀ (fs : List Fd) (B : List Int) (W : Bool), (tks fs B W).1.length = fs.length
  | [], _, _ => rfl
  | f :: fs, B, W => by
    show (_ :: (tks fs (tkF f B W).2.1 (tkF f B W).2.2).1).length = _
    rw [List.length_cons, tks_len fs, List.length_cons]
theorem tkl_bytes : ∀ (n : Nat) {B : List Int} (W : Bool), Bytes B → Bytes (tkl n B W).2.1
  | 0, _, _, h => h
  | n + 1, B, true, h => h
  | n + 1, B, false, h => tkl_bytes n (tkW 4 B false) (h.tkB 4 false)
theorem tkF_bytes (f : Fd) {B : List Int} (W : Bool) (h : Bytes B) : Bytes (tkF f B W).2.1 := by
  unfold tkF
  split
  · exact h.tkB _ _
  split
  · exact h.tkB _ _
  split
  · exact h.tkB _ _
  split
  · exact h.tkB _ _
  split
  · exact h.tkB _ _
  split
  · exact (h.tkB _ _).tkB _ _
  split
  · exact tkl_bytes _ _ (h.tkB _ _)
  · exact h
theorem tks_bytes : ∀ (fs : List Fd) {B : List Int} (W : Bool), Bytes B → Bytes (tks fs B W).2.1
  | [], _, _, h => h
  | f :: fs, B, W, h => tks_bytes fs _ (tkF_bytes f W h)
/-- Without its places in memory. -/
def Fd.norm (f : Fd) : Fd := { f with ba := none, bc := 0, la := none, lc := 0 }
theorem tkF_norm (f : Fd) (B : List Int) (W : Bool) : (tkF f B W).1.norm = (tkF f B W).1 := by
  unfold tkF; repeat' split
  all_goals rfl
end Go.Proofs.Ytahkaepmfnmhcaa
