/- ShaCut: the walk. -/
import Derived.Test.YtjiolckgjfaapaaShaI
namespace Go.Proofs.Ytjiolckgjfaapaa
open Go Go.RowKit

def by32 : List Leaf := List.replicate 32 (some .u8)
def by64 : List Leaf := List.replicate 64 (some .u8)
theorem fl32 : Flat Try.prog 27 by32 := Flat.mk' 5 (by decide) (by kernel_rfl) (by kernel_rfl)
theorem fl64 : Flat Try.prog 29 by64 := Flat.mk' 5 (by decide) (by kernel_rfl) (by kernel_rfl)
theorem wf8' (n : Int) : (Lit.int .u8 (IntKind.u8.wrap n)).wf = true := by
  have h := IntKind.wrap_u8 n
  rw [Lit.wf_int_iff]
  have e1 : IntKind.u8.min = 0 := by decide
  have e2 : IntKind.u8.max = 255 := by decide
  rw [e1, e2, h]
  omega
theorem fits8 {n : Nat} {xs : List Int} (h : xs.length = n) (hb : ∀ x ∈ xs, (Lit.int .u8 x).wf = true) : Fits1 (List.replicate n (some .u8)) (ints .u8 xs) := by
  induction xs generalizing n with
  | nil => subst h; simp [ints, Fits1]
  | cons x xs ih =>
    subst h
    exact ⟨⟨rfl, hb x (by simp)⟩, ih rfl (fun y hy => hb y (by simp [hy]))⟩
theorem dgF_wf (z : Nat) (xs : List Int) : ∀ x ∈ dgF z xs, (Lit.int .u8 x).wf = true := by
  intro x hx
  obtain ⟨l, hl, hx⟩ := List.mem_flatten.1 hx
  obtain ⟨y, _, rfl⟩ := List.mem_map.1 hl
  obtain ⟨t, _, rfl⟩ := List.mem_map.1 hx
  exact wf8' _
theorem fits256 (msg : List Int) : Fits1 by32 (ints .u8 (sum256 msg)) := fits8 (sum256_len msg) (dgF_wf _ _)
theorem fits512 (msg : List Int) : Fits1 by64 (ints .u8 (sum512 msg)) := fits8 (sum512_len msg) (dgF_wf _ _)

theorem hls4 {w : World} {T : Pm} {v1 v2 v3 v4 : Value} {b1 b2 b3 b4 : List Int} (h1 : RdS w T v1 1 b1.length (ints .u8 b1)) (h2 : RdS w T v2 1 b2.length (ints .u8 b2)) (h3 : RdS w T v3 1 b3.length (ints .u8 b3)) (h4 : RdS w T v4 1 b4.length (ints .u8 b4)) :
    ∀ (i : Nat) (v' : Value) (c' : List Int), [v1, v2, v3, v4][i]? = some v' → [b1, b2, b3, b4][i]? = some c' → RdS w T v' 1 c'.length (ints .u8 c') := by
  intro i v' c' e1 e2
  match i with
  | 0 => simp at e1 e2; subst e1 e2; exact h1
  | 1 => simp at e1 e2; subst e1 e2; exact h2
  | 2 => simp at e1 e2; subst e1 e2; exact h3
  | 3 => simp at e1 e2; subst e1 e2; exact h4
  | _ + 4 => simp at e1
theorem RdS.nil' {w : World} {T : Pm} : RdS w T (.slice none 0 0) 1 ([] : List Int).length (ints .u8 []) := fun w' _ => Rd.nil _ _
theorem RdS.part {w : World} {T : Pm} {al : Option Addr} {cl l h : Nat} {bs : List Int} (hx : RdS w T (.slice al bs.length cl) 1 bs.length (ints .u8 bs)) (hh : l ≤ h ∧ h ≤ bs.length) :
    RdS w T (subS (.slice al bs.length cl) l h cl 1) 1 ((bs.drop l).take (h - l)).length (ints .u8 ((bs.drop l).take (h - l))) := fun w' hc => by
  have := (hx w' hc).sub l h hh.1 hh.2
  rw [Nat.mul_one, Nat.mul_one] at this
  have e : ((bs.drop l).take (h - l)).length = h - l := by simp; omega
  have e2 : ((ints .u8 bs).drop l).take (h - l) = ints .u8 ((bs.drop l).take (h - l)) := by simp [ints]
  rw [e2] at this
  rw [e]; exact this

theorem RdS.partN {w : World} {T : Pm} {al : Option Addr} {n cl l h : Nat} {bs : List Int} (hx : RdS w T (.slice al n cl) 1 n (ints .u8 bs)) (hn : bs.length = n) (hh : l ≤ h ∧ h ≤ n) :
    RdS w T (subS (.slice al n cl) l h cl 1) 1 ((bs.drop l).take (h - l)).length (ints .u8 ((bs.drop l).take (h - l))) := by subst hn; exact hx.part hh

def pA (bs : List Int) (cn : Nat) : List Int := (bs.drop 0).take (cn - 0)
def pZ (bs : List Int) (cn : Nat) : List Int := (bs.drop cn).take (bs.length - cn)
def pB (bs : List Int) (cn mn : Nat) : List Int := ((pZ bs cn).drop 0).take (mn - 0)
def pC (bs : List Int) (cn mn : Nat) : List Int := ((pZ bs cn).drop mn).take (bs.length - cn - mn)
def vA (al : Option Addr) (n cl cn : Nat) : Value := subS (.slice al n cl) 0 cn cl 1
def vB (al : Option Addr) (n cl cn mn : Nat) : Value := subS (.slice (if cl = cn then al else al.map (·.add (cn * 1))) (n - cn) (cl - cn)) 0 mn (cl - cn) 1
def vC (al : Option Addr) (n cl cn mn : Nat) : Value := subS (.slice (if cl = cn then al else al.map (·.add (cn * 1))) (n - cn) (cl - cn)) mn (n - cn) (cl - cn) 1
theorem pZ_eq {bs : List Int} {cn : Nat} : pZ bs cn = bs.drop cn := List.take_of_length_le (by simp)
theorem cut_join {bs : List Int} {cn mn : Nat} (h1 : cn ≤ bs.length) (h2 : mn ≤ bs.length - cn) : pA bs cn ++ (pB bs cn mn ++ pC bs cn mn) = bs := by
  have e : pB bs cn mn ++ pC bs cn mn = bs.drop cn := by
    unfold pB pC
    rw [pZ_eq, List.drop_zero, Nat.sub_zero, List.take_of_length_le (l := (bs.drop cn).drop mn) (by simp; omega), List.take_append_drop]
  rw [e]
  unfold pA
  rw [List.drop_zero, Nat.sub_zero, List.take_append_drop]
theorem cut_src {w : World} {T : Pm} {al : Option Addr} {cl cn mn : Nat} {bs : List Int} (hb : RdS w T (.slice al bs.length cl) 1 bs.length (ints .u8 bs)) (h1 : cn ≤ bs.length) (h2 : mn ≤ bs.length - cn) :
    RdS w T (vA al bs.length cl cn) 1 (pA bs cn).length (ints .u8 (pA bs cn)) ∧ RdS w T (vB al bs.length cl cn mn) 1 (pB bs cn mn).length (ints .u8 (pB bs cn mn)) ∧ RdS w T (vC al bs.length cl cn mn) 1 (pC bs cn mn).length (ints .u8 (pC bs cn mn)) := by
  have hzl : (pZ bs cn).length = bs.length - cn := by rw [pZ_eq, List.length_drop]
  have hz : RdS w T (.slice (if cl = cn then al else al.map (·.add (cn * 1))) (bs.length - cn) (cl - cn)) 1 (bs.length - cn) (ints .u8 (pZ bs cn)) := (hb.part (l := cn) (h := bs.length) ⟨h1, Nat.le_refl _⟩).len hzl
  exact ⟨hb.part ⟨Nat.zero_le _, h1⟩, hz.partN hzl ⟨Nat.zero_le _, h2⟩, hz.partN hzl ⟨h2, Nat.le_refl _⟩⟩

theorem shaCut_any (bs : List Int) (v : Value) (cut more : Int) (w : World) (hw : OK w (fpL [rdR v 1 bs.length (ints .u8 bs)]) [rdR v 1 bs.length (ints .u8 bs)] w) :
    Fn Try.prog 4 [v, .int .i64 cut, .int .i64 more] [rdR v 1 bs.length (ints .u8 bs)] w (fun _ : Unit => True) (fun _ => .bool true) (fun _ => []) := by
  obtain ⟨al, cl, rfl, hcl, hml⟩ := (hw.get .head).form
  refine enterF Try.func4 rfl Try.ntmps4 rfl hw ?_
  refine WC.seq ?_
  refine WC.region ?_
  refine WL.y (Yl.assign rfl) rfl ?_ -- t6
  refine WL.nil ?_
  refine WC.seq ?_
  refine WC.seq ?_
  refine WC.region ?_
  refine WL.callC (xs := []) (cap := []) rfl rfl en5 (by repeat (first | exact TakeL.nil | (apply TakeL.cons; · repeat (first | exact Take1.head | apply Take1.tail)))) (fun w hw => known_any w hw.left.here) rfl ?_ -- t12 hailer/hailerlaw01.known
  rintro ⟨⟩ -
  refine WL.y (Yl.not rfl) rfl ?_ -- t13
  refine WL.know (t := 13) (b' := false) rfl (by first | rfl | (simp; done) | (simp; omega)) ?_
  refine WL.nil ?_
  refine WC.condF rfl (by first | rfl | (simp; done) | (simp; omega)) ?_
  refine WC.skip ?_
  refine WC.seq ?_
  refine WC.seq ?_
  refine WC.region ?_
  refine WL.y (Yl.move rfl) rfl ?_ -- t14
  refine WL.y (Yl.len un25 rfl) rfl ?_ -- t15
  refine WL.y (Yl.gtr rfl rfl) rfl ?_ -- t16
  refine WL.y (Yl.move rfl) rfl ?_ -- t17
  refine WL.both (t := 17) rfl (fun g17 => ?_) (fun g17 => ?_)
  · refine WL.off rfl rfl rfl rfl ?_ -- t18
    refine WL.off rfl rfl rfl rfl ?_ -- t19
    refine WL.y (Yl.pickT rfl rfl) rfl ?_ -- t20
    refine WL.y (Yl.move rfl) rfl ?_ -- t21
    refine WL.off rfl rfl rfl rfl ?_ -- t22
    refine WL.off rfl rfl rfl rfl ?_ -- t23
    refine WL.off rfl rfl rfl rfl ?_ -- t24
    refine WL.off rfl rfl rfl rfl ?_ -- t25
    refine WL.y (Yl.pickT rfl rfl) rfl ?_ -- t26
    refine WL.y (Yl.move rfl) rfl ?_ -- t27
    refine WL.off rfl rfl rfl rfl ?_ -- t28
    refine WL.off rfl rfl rfl rfl ?_ -- t29
    refine WL.y (Yl.pickT rfl rfl) rfl ?_ -- t30
    refine WL.y (Yl.move rfl) rfl ?_ -- t31
    refine WL.off rfl rfl rfl rfl ?_ -- t32
    refine WL.off rfl rfl rfl rfl ?_ -- t33
    refine WL.off rfl rfl rfl rfl ?_ -- t34
    refine WL.off rfl rfl rfl rfl ?_ -- t35
    refine WL.off rfl rfl rfl rfl ?_ -- t36
    refine WL.off rfl rfl rfl rfl ?_ -- t37
    refine WL.y (Yl.pickT rfl rfl) rfl ?_ -- t38
    refine WL.nil ?_
    refine WC.condT rfl (by first | rfl | (simp; done) | (simp; omega)) ?_
    refine WC.seq ?_
    refine WC.region ?_
    refine WL.y (Yl.assign rfl) rfl ?_ -- t6
    refine WL.nil ?_
    refine WC.ret ?_
    repeat (first | (with_reducible refine peelT ?_) | (with_reducible refine peelB ?_) | (with_reducible refine peelTX ?_) | (with_reducible refine peelBX ?_) | (with_reducible refine peelBN ?_) | (with_reducible refine peelBO rfl ?_))
    exact ret1 (.inr rfl) Try.results4 rfl fun w' h => ⟨(), trivial, rfl, h.sub (by repeat (first | exact TakeL.nil | (apply TakeL.cons; · repeat (first | exact Take1.head | apply Take1.tail))))⟩
  · refine WL.on rfl rfl ?_
    refine WL.y (Yl.move rfl) rfl ?_ -- t18
    refine WL.on rfl rfl ?_
    refine WL.y (Yl.lss rfl rfl) rfl ?_ -- t19
    refine WL.y (Yl.pickF rfl rfl) rfl ?_ -- t20
    refine WL.y (Yl.move rfl) rfl ?_ -- t21
    refine WL.both (t := 21) rfl (fun g21 => ?_) (fun g21 => ?_)
    · refine WL.off rfl rfl rfl rfl ?_ -- t22
      refine WL.off rfl rfl rfl rfl ?_ -- t23
      refine WL.off rfl rfl rfl rfl ?_ -- t24
      refine WL.off rfl rfl rfl rfl ?_ -- t25
      refine WL.y (Yl.pickT rfl rfl) rfl ?_ -- t26
      refine WL.y (Yl.move rfl) rfl ?_ -- t27
      refine WL.off rfl rfl rfl rfl ?_ -- t28
      refine WL.off rfl rfl rfl rfl ?_ -- t29
      refine WL.y (Yl.pickT rfl rfl) rfl ?_ -- t30
      refine WL.y (Yl.move rfl) rfl ?_ -- t31
      refine WL.off rfl rfl rfl rfl ?_ -- t32
      refine WL.off rfl rfl rfl rfl ?_ -- t33
      refine WL.off rfl rfl rfl rfl ?_ -- t34
      refine WL.off rfl rfl rfl rfl ?_ -- t35
      refine WL.off rfl rfl rfl rfl ?_ -- t36
      refine WL.off rfl rfl rfl rfl ?_ -- t37
      refine WL.y (Yl.pickT rfl rfl) rfl ?_ -- t38
      refine WL.nil ?_
      refine WC.condT rfl (by first | rfl | (simp; done) | (simp; omega)) ?_
      refine WC.seq ?_
      refine WC.region ?_
      refine WL.y (Yl.assign rfl) rfl ?_ -- t6
      refine WL.nil ?_
      refine WC.ret ?_
      repeat (first | (with_reducible refine peelT ?_) | (with_reducible refine peelB ?_) | (with_reducible refine peelTX ?_) | (with_reducible refine peelBX ?_) | (with_reducible refine peelBN ?_) | (with_reducible refine peelBO rfl ?_))
      exact ret1 (.inr rfl) Try.results4 rfl fun w' h => ⟨(), trivial, rfl, h.sub (by repeat (first | exact TakeL.nil | (apply TakeL.cons; · repeat (first | exact Take1.head | apply Take1.tail))))⟩
    · refine WL.on rfl rfl ?_
      refine WL.y (Yl.move rfl) rfl ?_ -- t22
      refine WL.on rfl rfl ?_
      refine WL.y (Yl.move rfl) rfl ?_ -- t23
      refine WL.on rfl rfl ?_
      refine WL.y (Yl.len un25 rfl) rfl ?_ -- t24
      refine WL.on rfl rfl ?_
      refine WL.y (Yl.gtr rfl rfl) rfl ?_ -- t25
      refine WL.y (Yl.pickF rfl rfl) rfl ?_ -- t26
      refine WL.y (Yl.move rfl) rfl ?_ -- t27
      refine WL.both (t := 27) rfl (fun g27 => ?_) (fun g27 => ?_)
      · refine WL.off rfl rfl rfl rfl ?_ -- t28
        refine WL.off rfl rfl rfl rfl ?_ -- t29
        refine WL.y (Yl.pickT rfl rfl) rfl ?_ -- t30
        refine WL.y (Yl.move rfl) rfl ?_ -- t31
        refine WL.off rfl rfl rfl rfl ?_ -- t32
        refine WL.off rfl rfl rfl rfl ?_ -- t33
        refine WL.off rfl rfl rfl rfl ?_ -- t34
        refine WL.off rfl rfl rfl rfl ?_ -- t35
        refine WL.off rfl rfl rfl rfl ?_ -- t36
        refine WL.off rfl rfl rfl rfl ?_ -- t37
        refine WL.y (Yl.pickT rfl rfl) rfl ?_ -- t38
        refine WL.nil ?_
        refine WC.condT rfl (by first | rfl | (simp; done) | (simp; omega)) ?_
        refine WC.seq ?_
        refine WC.region ?_
        refine WL.y (Yl.assign rfl) rfl ?_ -- t6
        refine WL.nil ?_
        refine WC.ret ?_
        repeat (first | (with_reducible refine peelT ?_) | (with_reducible refine peelB ?_) | (with_reducible refine peelTX ?_) | (with_reducible refine peelBX ?_) | (with_reducible refine peelBN ?_) | (with_reducible refine peelBO rfl ?_))
        exact ret1 (.inr rfl) Try.results4 rfl fun w' h => ⟨(), trivial, rfl, h.sub (by repeat (first | exact TakeL.nil | (apply TakeL.cons; · repeat (first | exact Take1.head | apply Take1.tail))))⟩
      · refine WL.on rfl rfl ?_
        refine WL.y (Yl.move rfl) rfl ?_ -- t28
        refine WL.on rfl rfl ?_
        refine WL.y (Yl.lss rfl rfl) rfl ?_ -- t29
        refine WL.y (Yl.pickF rfl rfl) rfl ?_ -- t30
        refine WL.y (Yl.move rfl) rfl ?_ -- t31
        refine WL.both (t := 31) rfl (fun g31 => ?_) (fun g31 => ?_)
        · refine WL.off rfl rfl rfl rfl ?_ -- t32
          refine WL.off rfl rfl rfl rfl ?_ -- t33
          refine WL.off rfl rfl rfl rfl ?_ -- t34
          refine WL.off rfl rfl rfl rfl ?_ -- t35
          refine WL.off rfl rfl rfl rfl ?_ -- t36
          refine WL.off rfl rfl rfl rfl ?_ -- t37
          refine WL.y (Yl.pickT rfl rfl) rfl ?_ -- t38
          refine WL.nil ?_
          refine WC.condT rfl (by first | rfl | (simp; done) | (simp; omega)) ?_
          refine WC.seq ?_
          refine WC.region ?_
          refine WL.y (Yl.assign rfl) rfl ?_ -- t6
          refine WL.nil ?_
          refine WC.ret ?_
          repeat (first | (with_reducible refine peelT ?_) | (with_reducible refine peelB ?_) | (with_reducible refine peelTX ?_) | (with_reducible refine peelBX ?_) | (with_reducible refine peelBN ?_) | (with_reducible refine peelBO rfl ?_))
          exact ret1 (.inr rfl) Try.results4 rfl fun w' h => ⟨(), trivial, rfl, h.sub (by repeat (first | exact TakeL.nil | (apply TakeL.cons; · repeat (first | exact Take1.head | apply Take1.tail))))⟩
        · refine WL.on rfl rfl ?_
          refine WL.y (Yl.move rfl) rfl ?_ -- t32
          refine WL.on rfl rfl ?_
          refine WL.y (Yl.move rfl) rfl ?_ -- t33
          refine WL.on rfl rfl ?_
          refine WL.y (Yl.len un25 rfl) rfl ?_ -- t34
          refine WL.on rfl rfl ?_
          refine WL.y (Yl.move rfl) rfl ?_ -- t35
          refine WL.on rfl rfl ?_
          have q17 := of_decide_eq_false g17
          have q21 := of_decide_eq_false g21
          have q27 := of_decide_eq_false g27
          have q31 := of_decide_eq_false g31
          refine WL.y (Yl.sub rfl rfl (IntWalk.i64_in _ (by omega))) rfl ?_ -- t36
          refine WL.on rfl rfl ?_
          refine WL.y (Yl.gtr rfl rfl) rfl ?_ -- t37
          refine WL.y (Yl.pickF rfl rfl) rfl ?_ -- t38
          refine WL.nil ?_
          refine WC.condD rfl (fun g38 => ?_) (fun g38 => ?_)
          · refine WC.seq ?_
            refine WC.region ?_
            refine WL.y (Yl.assign rfl) rfl ?_ -- t6
            refine WL.nil ?_
            refine WC.ret ?_
            repeat (first | (with_reducible refine peelT ?_) | (with_reducible refine peelB ?_) | (with_reducible refine peelTX ?_) | (with_reducible refine peelBX ?_) | (with_reducible refine peelBN ?_) | (with_reducible refine peelBO rfl ?_))
            exact ret1 (.inr rfl) Try.results4 rfl fun w' h => ⟨(), trivial, rfl, h.sub (by repeat (first | exact TakeL.nil | (apply TakeL.cons; · repeat (first | exact Take1.head | apply Take1.tail))))⟩
          · refine WC.skip ?_
            refine WC.seq ?_
            refine WC.region ?_
            have q17 := of_decide_eq_false g17
            have q21 := of_decide_eq_false g21
            have q27 := of_decide_eq_false g27
            have q31 := of_decide_eq_false g31
            obtain ⟨cn, rfl⟩ := Int.eq_ofNat_of_zero_le (by omega : 0 ≤ cut)
            obtain ⟨mn, rfl⟩ := Int.eq_ofNat_of_zero_le (by omega : 0 ≤ more)
            refine WL.y (Yl.move rfl) rfl ?_ -- t39
            refine WL.y (Yl.toStr un25 un5 un9 rfl (Reads.of RdOf.rd' (by repeat (first | exact Take1.head | apply Take1.tail)))) rfl ?_ -- t40
            refine WL.y (Yl.assign rfl) rfl ?_ -- t7
            refine WL.nil ?_
            refine WC.seq ?_
            refine WC.region ?_
            refine WL.y (Yl.move rfl) rfl ?_ -- t41
            refine WL.to (To.buildSlice (vs := [.slice al bs.length cl]) un22 zs25 rfl rfl (by simp [Value.cells]) (by decide) (by decide)) rfl ?_ -- t42
            intro b42
            refine WL.callC (xs := [.tmp 42]) (cap := []) rfl rfl en8 (by repeat (first | exact TakeL.nil | (apply TakeL.cons; · repeat (first | exact Take1.head | apply Take1.tail)))) (fun w hw => sum256_any [bs] [.slice al bs.length cl] (.slice (some ⟨b42, 0, none⟩) 1 1) rfl (by simp; omega) (by simp) w (hw.src (A := []) (RdOf.blk (size := 1) (cs := [.slice al bs.length cl]) (Nat.le_refl _) (by unfold maxLen; omega) (by simp) rfl) (by repeat (first | exact Take1.head | apply Take1.tail))) (hls1 (hw.src (A := []) (RdOf.rd' (v := .slice al bs.length cl)) (by repeat (first | exact Take1.head | apply Take1.tail)))) hw.left.here) rfl ?_ -- t43 hailer/sha.Sum256
            rintro ⟨⟩ -
            rw [show ([bs] : List (List Int)).flatten = bs by simp]
            refine WL.y (Yl.move rfl) rfl ?_ -- t44
            refine WL.to (To.buildSlice (vs := [.slice al bs.length cl]) un22 zs25 rfl rfl (by simp [Value.cells]) (by decide) (by decide)) rfl ?_ -- t45
            intro b45
            refine WL.callC (xs := [.tmp 45]) (cap := []) rfl rfl en9 (by repeat (first | exact TakeL.nil | (apply TakeL.cons; · repeat (first | exact Take1.head | apply Take1.tail)))) (fun w hw => sum512_any [bs] [.slice al bs.length cl] (.slice (some ⟨b45, 0, none⟩) 1 1) rfl (by simp; omega) (by simp) w (hw.src (A := []) (RdOf.blk (size := 1) (cs := [.slice al bs.length cl]) (Nat.le_refl _) (by unfold maxLen; omega) (by simp) rfl) (by repeat (first | exact Take1.head | apply Take1.tail))) (hls1 (hw.src (A := []) (RdOf.rd' (v := .slice al bs.length cl)) (by repeat (first | exact Take1.head | apply Take1.tail)))) hw.left.here) rfl ?_ -- t46 hailer/sha.Sum512
            rintro ⟨⟩ -
            rw [show ([bs] : List (List Int)).flatten = bs by simp]
            refine WL.to (To.alloc zr27 rfl) rfl ?_ -- t8
            intro b8
            refine WL.to (To.alloc zr29 rfl) rfl ?_ -- t9
            intro b9
            refine WL.sto (Sto.agg sz27 rfl rfl (by repeat (first | exact Take1.head | apply Take1.tail)) (ints_one _ _) (by rw [ints_length, sum256_len]) (by rfl) (putAll rfl)) (fun _ h => nomatch h) ?_ -- st 1
            refine WL.sto (Sto.agg sz29 rfl rfl (by repeat (first | exact Take1.head | apply Take1.tail)) (ints_one _ _) (by rw [ints_length, sum512_len]) (by rfl) (putAll rfl)) (fun _ h => nomatch h) ?_ -- st 2
            refine WL.nil ?_
            refine WC.seq ?_
            refine WC.drawRead mixed (by kernel_rfl) ?_
            refine WH.y (Yl.move rfl) rfl ?_ -- t47
            refine WH.y (Yl.move rfl) rfl ?_ -- t48
            refine WH.y (Yl.slice (h := cn) un25 sz5 rfl rfl ⟨.i64, rfl⟩ (by omega) (by omega)) rfl ?_
            refine WH.y (Yl.move rfl) rfl ?_ -- t50
            refine WH.y (Yl.move rfl) rfl ?_ -- t51
            refine WH.y (Yl.slice (l := cn) un25 sz5 rfl ⟨.i64, rfl⟩ rfl (by omega) (by omega)) rfl ?_
            refine WH.y (Yl.assign rfl) rfl ?_ -- t10
            refine WH.y (Yl.assign rfl) rfl ?_ -- t11
            refine WH.nil ?_
            refine WC.seq ?_
            refine WC.drawAny (Hs := [blkR b8 27 (ints .u8 (sum256 bs)), blkR b9 29 (ints .u8 (sum512 bs)), rdR (.slice al bs.length cl) 1 bs.length (ints .u8 bs)]) mixed (by kernel_rfl) ⟨_, (by repeat (first | exact TakeL.nil | (apply TakeL.cons; · repeat (first | exact Take1.head | apply Take1.tail))))⟩ ?_
            have hcn : cn ≤ bs.length := by omega
            have hmn : mn ≤ bs.length - cn := by omega
            have f1 : ([pA bs cn, [], pB bs cn mn, pC bs cn mn] : List (List Int)).flatten = bs := by simpa using cut_join hcn hmn
            have f2 : ([pA bs cn, pB bs cn mn, pC bs cn mn, []] : List (List Int)).flatten = bs := by simpa using cut_join hcn hmn
            refine WD.take 0 rfl (by kernel_rfl) (by kernel_rfl) (by kernel_rfl) rfl rfl (Yl.move rfl) rfl ?_ -- t53
            refine WD.take 1 rfl (by kernel_rfl) (by kernel_rfl) (by kernel_rfl) rfl rfl (Yl.move rfl) rfl ?_ -- t54
            refine WD.take 2 rfl (by kernel_rfl) (by kernel_rfl) (by kernel_rfl) rfl rfl (Yl.move rfl) rfl ?_ -- t55
            refine WD.take 3 rfl (by kernel_rfl) (by kernel_rfl) (by kernel_rfl) rfl rfl (Yl.slice (h := mn) un25 sz5 rfl rfl ⟨.i64, rfl⟩ (by omega) (by omega)) rfl ?_
            refine WD.take 4 rfl (by kernel_rfl) (by kernel_rfl) (by kernel_rfl) rfl rfl (Yl.move rfl) rfl ?_ -- t57
            refine WD.take 5 rfl (by kernel_rfl) (by kernel_rfl) (by kernel_rfl) rfl rfl (Yl.move rfl) rfl ?_ -- t58
            refine WD.take 6 rfl (by kernel_rfl) (by kernel_rfl) (by kernel_rfl) rfl rfl (Yl.slice (l := mn) un25 sz5 rfl ⟨.i64, rfl⟩ rfl (by omega) (by omega)) rfl ?_
            refine WD.take 9 rfl (by kernel_rfl) (by kernel_rfl) (by kernel_rfl) rfl rfl (Yl.loadN ag27 rfl (by repeat (first | exact Take1.head | apply Take1.tail)) (by rw [ints_length, sum256_len]; rfl) (show _ = ints .u8 (sum256 bs) by rw [List.drop_zero, List.take_of_length_le (by rw [ints_length, sum256_len]; omega)])) rfl ?_ -- t62
            refine WD.one 7 (by kernel_rfl) ?_
            refine WO.to rfl rfl .no (To.buildSlice (vs := [vA al bs.length cl cn, .slice none 0 0, vB al bs.length cl cn mn, vC al bs.length cl cn mn]) un22 zs25 rfl rfl (by intro v hv; simp at hv; rcases hv with rfl | rfl | rfl | rfl <;> rfl) (by decide) (by decide)) rfl (fun _ => ⟨_, (by repeat (first | exact TakeL.nil | (apply TakeL.cons; · repeat (first | exact Take1.head | apply Take1.tail))))⟩) ?_ -- t60
            intro b60
            refine WD.one 8 (by kernel_rfl) ?_
            refine WO.callC (xs := [.tmp 60]) (cap := []) rfl .no rfl rfl en8 (by repeat (first | exact TakeL.nil | (apply TakeL.cons; · repeat (first | exact Take1.head | apply Take1.tail)))) (fun w hw => sum256_any [pA bs cn, [], pB bs cn mn, pC bs cn mn] [vA al bs.length cl cn, .slice none 0 0, vB al bs.length cl cn mn, vC al bs.length cl cn mn] (.slice (some ⟨b60, 0, none⟩) 4 4) rfl (by rw [f1]; omega) (by simp) w (hw.src (A := []) (RdOf.blk (size := 1) (cs := [vA al bs.length cl cn, .slice none 0 0, vB al bs.length cl cn mn, vC al bs.length cl cn mn]) (Nat.le_refl _) (by unfold maxLen; omega) (by simp) rfl) (by repeat (first | exact Take1.head | apply Take1.tail))) (hls4 (cut_src (hw.src (A := []) (RdOf.rd' (v := .slice al bs.length cl)) (by repeat (first | exact Take1.head | apply Take1.tail))) hcn hmn).1 RdS.nil' (cut_src (hw.src (A := []) (RdOf.rd' (v := .slice al bs.length cl)) (by repeat (first | exact Take1.head | apply Take1.tail))) hcn hmn).2.1 (cut_src (hw.src (A := []) (RdOf.rd' (v := .slice al bs.length cl)) (by repeat (first | exact Take1.head | apply Take1.tail))) hcn hmn).2.2) hw.left.here) rfl (fun _ => ⟨_, (by repeat (first | exact TakeL.nil | (apply TakeL.cons; · repeat (first | exact Take1.head | apply Take1.tail))))⟩) ?_ -- t61 hailer/sha.Sum256
            rintro ⟨⟩ -
            rw [f1]
            refine WD.take 10 rfl (by kernel_rfl) (by kernel_rfl) (by kernel_rfl) rfl rfl (Yl.eqA fl32 rfl rfl (fits256 _) (fits256 _)) rfl ?_
            refine WD.know (t := 63) (b' := true) rfl (eqV_self _) ?_
            refine WD.take 11 rfl (by kernel_rfl) (by kernel_rfl) (by kernel_rfl) rfl rfl (Yl.move rfl) rfl ?_ -- t64
            refine WD.takeOn 12 rfl (by kernel_rfl) (by kernel_rfl) (by kernel_rfl) rfl rfl rfl rfl (Yl.move rfl) rfl ?_ -- t65
            refine WD.takeOn 13 rfl (by kernel_rfl) (by kernel_rfl) (by kernel_rfl) rfl rfl rfl rfl (Yl.move rfl) rfl ?_ -- t66
            refine WD.takeOn 14 rfl (by kernel_rfl) (by kernel_rfl) (by kernel_rfl) rfl rfl rfl rfl (Yl.move rfl) rfl ?_ -- t67
            refine WD.takeOn 15 rfl (by kernel_rfl) (by kernel_rfl) (by kernel_rfl) rfl rfl rfl rfl (Yl.slice (h := mn) un25 sz5 rfl rfl ⟨.i64, rfl⟩ (by omega) (by omega)) rfl ?_
            refine WD.takeOn 16 rfl (by kernel_rfl) (by kernel_rfl) (by kernel_rfl) rfl rfl rfl rfl (Yl.move rfl) rfl ?_ -- t69
            refine WD.takeOn 17 rfl (by kernel_rfl) (by kernel_rfl) (by kernel_rfl) rfl rfl rfl rfl (Yl.move rfl) rfl ?_ -- t70
            refine WD.takeOn 18 rfl (by kernel_rfl) (by kernel_rfl) (by kernel_rfl) rfl rfl rfl rfl (Yl.slice (l := mn) un25 sz5 rfl ⟨.i64, rfl⟩ rfl (by omega) (by omega)) rfl ?_
            refine WD.takeOn 21 rfl (by kernel_rfl) (by kernel_rfl) (by kernel_rfl) rfl rfl rfl rfl (Yl.loadN ag29 rfl (by repeat (first | exact Take1.head | apply Take1.tail)) (by rw [ints_length, sum512_len]; rfl) (show _ = ints .u8 (sum512 bs) by rw [List.drop_zero, List.take_of_length_le (by rw [ints_length, sum512_len]; omega)])) rfl ?_ -- t74
            refine WD.one 19 (by kernel_rfl) ?_
            refine WO.to rfl rfl (.on rfl rfl) (To.buildSlice (vs := [vA al bs.length cl cn, vB al bs.length cl cn mn, vC al bs.length cl cn mn, .slice none 0 0]) un22 zs25 rfl rfl (by intro v hv; simp at hv; rcases hv with rfl | rfl | rfl | rfl <;> rfl) (by decide) (by decide)) rfl (fun _ => ⟨_, (by repeat (first | exact TakeL.nil | (apply TakeL.cons; · repeat (first | exact Take1.head | apply Take1.tail))))⟩) ?_ -- t72
            intro b72
            refine WD.one 20 (by kernel_rfl) ?_
            refine WO.callC (xs := [.tmp 72]) (cap := []) rfl (.on rfl rfl) rfl rfl en9 (by repeat (first | exact TakeL.nil | (apply TakeL.cons; · repeat (first | exact Take1.head | apply Take1.tail)))) (fun w hw => sum512_any [pA bs cn, pB bs cn mn, pC bs cn mn, []] [vA al bs.length cl cn, vB al bs.length cl cn mn, vC al bs.length cl cn mn, .slice none 0 0] (.slice (some ⟨b72, 0, none⟩) 4 4) rfl (by rw [f2]; omega) (by simp) w (hw.src (A := []) (RdOf.blk (size := 1) (cs := [vA al bs.length cl cn, vB al bs.length cl cn mn, vC al bs.length cl cn mn, .slice none 0 0]) (Nat.le_refl _) (by unfold maxLen; omega) (by simp) rfl) (by repeat (first | exact Take1.head | apply Take1.tail))) (hls4 (cut_src (hw.src (A := []) (RdOf.rd' (v := .slice al bs.length cl)) (by repeat (first | exact Take1.head | apply Take1.tail))) hcn hmn).1 (cut_src (hw.src (A := []) (RdOf.rd' (v := .slice al bs.length cl)) (by repeat (first | exact Take1.head | apply Take1.tail))) hcn hmn).2.1 (cut_src (hw.src (A := []) (RdOf.rd' (v := .slice al bs.length cl)) (by repeat (first | exact Take1.head | apply Take1.tail))) hcn hmn).2.2 RdS.nil') hw.left.here) rfl (fun _ => ⟨_, (by repeat (first | exact TakeL.nil | (apply TakeL.cons; · repeat (first | exact Take1.head | apply Take1.tail))))⟩) ?_ -- t73 hailer/sha.Sum512
            rintro ⟨⟩ -
            rw [f2]
            refine WD.takeOn 22 rfl (by kernel_rfl) (by kernel_rfl) (by kernel_rfl) rfl rfl rfl rfl (Yl.eqA fl64 rfl rfl (fits512 _) (fits512 _)) rfl ?_
            refine WD.know (t := 75) (b' := true) rfl (eqV_self _) ?_
            refine WD.take 23 rfl (by kernel_rfl) (by kernel_rfl) (by kernel_rfl) rfl rfl (Yl.pickT rfl rfl) rfl ?_ -- t76
            refine WD.take 24 rfl (by kernel_rfl) (by kernel_rfl) (by kernel_rfl) rfl rfl (Yl.move rfl) rfl ?_ -- t77
            refine WD.takeOn 25 rfl (by kernel_rfl) (by kernel_rfl) (by kernel_rfl) rfl rfl rfl rfl (Yl.move rfl) rfl ?_ -- t78
            refine WD.takeOn 28 rfl (by kernel_rfl) (by kernel_rfl) (by kernel_rfl) rfl rfl rfl rfl (Yl.loadN ag27 rfl (by repeat (first | exact Take1.head | apply Take1.tail)) (by rw [ints_length, sum256_len]; rfl) (show _ = ints .u8 (sum256 bs) by rw [List.drop_zero, List.take_of_length_le (by rw [ints_length, sum256_len]; omega)])) rfl ?_ -- t81
            refine WD.one 26 (by kernel_rfl) ?_
            refine WO.to rfl rfl (.on rfl rfl) (To.buildSlice (vs := [.slice al bs.length cl]) un22 zs25 rfl rfl (by simp [Value.cells]) (by decide) (by decide)) rfl (fun _ => ⟨_, (by repeat (first | exact TakeL.nil | (apply TakeL.cons; · repeat (first | exact Take1.head | apply Take1.tail))))⟩) ?_ -- t79
            intro b79
            refine WD.one 27 (by kernel_rfl) ?_
            refine WO.callC (xs := [.tmp 79]) (cap := []) rfl (.on rfl rfl) rfl rfl en8 (by repeat (first | exact TakeL.nil | (apply TakeL.cons; · repeat (first | exact Take1.head | apply Take1.tail)))) (fun w hw => sum256_any [bs] [.slice al bs.length cl] (.slice (some ⟨b79, 0, none⟩) 1 1) rfl (by simp; omega) (by simp) w (hw.src (A := []) (RdOf.blk (size := 1) (cs := [.slice al bs.length cl]) (Nat.le_refl _) (by unfold maxLen; omega) (by simp) rfl) (by repeat (first | exact Take1.head | apply Take1.tail))) (hls1 (hw.src (A := []) (RdOf.rd' (v := .slice al bs.length cl)) (by repeat (first | exact Take1.head | apply Take1.tail)))) hw.left.here) rfl (fun _ => ⟨_, (by repeat (first | exact TakeL.nil | (apply TakeL.cons; · repeat (first | exact Take1.head | apply Take1.tail))))⟩) ?_ -- t80 hailer/sha.Sum256
            rintro ⟨⟩ -
            rw [show ([bs] : List (List Int)).flatten = bs by simp]
            refine WD.takeOn 29 rfl (by kernel_rfl) (by kernel_rfl) (by kernel_rfl) rfl rfl rfl rfl (Yl.eqA fl32 rfl rfl (fits256 _) (fits256 _)) rfl ?_
            refine WD.know (t := 82) (b' := true) rfl (eqV_self _) ?_
            refine WD.take 30 rfl (by kernel_rfl) (by kernel_rfl) (by kernel_rfl) rfl rfl (Yl.pickT rfl rfl) rfl ?_ -- t83
            refine WD.take 31 rfl (by kernel_rfl) (by kernel_rfl) (by kernel_rfl) rfl rfl (Yl.move rfl) rfl ?_ -- t84
            refine WD.takeOn 32 rfl (by kernel_rfl) (by kernel_rfl) (by kernel_rfl) rfl rfl rfl rfl (Yl.move rfl) rfl ?_ -- t85
            refine WD.takeOn 33 rfl (by kernel_rfl) (by kernel_rfl) (by kernel_rfl) rfl rfl rfl rfl (Yl.toStr un25 un5 un9 rfl (Reads.of RdOf.rd' (by repeat (first | exact Take1.head | apply Take1.tail)))) rfl ?_ -- t86
            refine WD.takeOn 34 rfl (by kernel_rfl) (by kernel_rfl) (by kernel_rfl) rfl rfl rfl rfl (Yl.move rfl) rfl ?_ -- t87
            refine WD.takeOn 35 rfl (by kernel_rfl) (by kernel_rfl) (by kernel_rfl) rfl rfl rfl rfl (Yl.sEq rfl rfl) rfl ?_ -- t88
            refine WD.know (t := 88) (b' := true) rfl (by simp) ?_
            refine WD.take 36 rfl (by kernel_rfl) (by kernel_rfl) (by kernel_rfl) rfl rfl (Yl.pickT rfl rfl) rfl ?_ -- t89
            refine WD.take 37 rfl (by kernel_rfl) (by kernel_rfl) (by kernel_rfl) rfl rfl (Yl.assign rfl) rfl ?_ -- t6
            refine WD.done (by kernel_rfl) ?_
            refine WC.ret ?_
            repeat (first | (with_reducible refine peelT ?_) | (with_reducible refine peelB ?_) | (with_reducible refine peelTX ?_) | (with_reducible refine peelBX ?_) | (with_reducible refine peelBN ?_) | (with_reducible refine peelBO rfl ?_))
            exact ret1 (.inr rfl) Try.results4 rfl fun w' h => ⟨(), trivial, rfl, h.sub (by repeat (first | exact TakeL.nil | (apply TakeL.cons; · repeat (first | exact Take1.head | apply Take1.tail))))⟩
end Go.Proofs.Ytjiolckgjfaapaa
