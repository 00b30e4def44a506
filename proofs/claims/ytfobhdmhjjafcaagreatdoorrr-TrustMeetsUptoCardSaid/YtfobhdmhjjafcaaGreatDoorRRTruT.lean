/- Two books that know each other's keys: in plain Lean. -/
import Derived.Test.YtfobhdmhjjafcaaGreatDoorRRTruR
namespace Go.Proofs.YtfobhdmhjjafcaaGreatDoorRR
open Go Go.RowKit
/-! ### Keys that were seen -/
def seenL (m : List (Ky × Unit)) : List Ky → List (Ky × Unit)
  | [] => m
  | k :: l => seenL (mput m k ()) l
theorem seen_nd : ∀ (l : List Ky) {m : List (Ky × Unit)}, mnd m → mnd (seenL m l)
  | [], _, h => h
  | k :: l, _, h => seen_nd l (mput_nd h k ())
theorem seen_le : ∀ (l : List Ky) (m : List (Ky × Unit)), (seenL m l).length ≤ m.length + l.length
  | [], m => Nat.le_refl _
  | k :: l, m => by
    have ih := seen_le l (mput m k ())
    have h := mput_len (m := m) (k := k) (v := ())
    rw [List.length_cons]
    show (seenL (mput m k ()) l).length ≤ _
    split at h <;> omega
theorem seen_lt : ∀ (l : List Ky) (m : List (Ky × Unit)) (k : Ky), mnd m → (mget m k).isSome = true → k ∈ l → (seenL m l).length < m.length + l.length
  | [], _, _, _, _, h => nomatch h
  | a :: l, m, k, hd, hs, hk => by
    rw [List.length_cons]
    show (seenL (mput m a ()) l).length < _
    have h := mput_len (m := m) (k := a) (v := ())
    by_cases e : a = k
    · subst e
      rw [if_pos hs] at h
      have := seen_le l (mput m a ())
      omega
    · have hk2 : k ∈ l := by
        rcases List.mem_cons.1 hk with h1 | h1
        · exact absurd h1.symm e
        · exact h1
      have hs2 : (mget (mput m a ()) k).isSome = true := by rw [mget_put hd, if_neg (fun h => e h.symm)]; exact hs
      have ih := seen_lt l (mput m a ()) k (mput_nd hd a ()) hs2 hk2
      split at h <;> omega
def seen0 (o : Ky) : List (Ky × Unit) := [(o, ())]
theorem seen0_nd (o : Ky) : mnd (seen0 o) := List.pairwise_singleton _ _
theorem seen0_get (o : Ky) : (mget (seen0 o) o).isSome = true := by unfold seen0 mget; simp
theorem not_seen {o : Ky} {x y : List Ky} (h : (seenL (seen0 o) (x ++ y)).length = x.length + y.length + 1) : o ∉ y := by
  intro hm
  have := seen_lt (x ++ y) (seen0 o) o (seen0_nd o) (seen0_get o) (List.mem_append_right _ hm)
  rw [List.length_append] at this
  have e : (seen0 o).length = 1 := rfl
  omega
theorem seen_snoc : ∀ (l : List Ky) (m : List (Ky × Unit)) (k : Ky), seenL m (l ++ [k]) = mput (seenL m l) k ()
  | [], _, _ => rfl
  | _ :: l, m, k => seen_snoc l _ k

/-! ### Keys learnt, one device after the other -/
def ctP (l : List Ky) (i : Nat) : Ct := ⟨l.take i ++ List.replicate (4 - i) Ky.zero, List.replicate i true ++ List.replicate (4 - i) false, 1⟩
def lrn (a : Int) (l : List Ky) (i : Nat) : Cs := if i = 0 then [] else [(a, ctP l i)]
theorem mget_one (a : Int) (c : Ct) : mget [(a, c)] a = some c := by unfold mget; simp
theorem mput_one (a : Int) (c c' : Ct) : mput [(a, c)] a c' = [(a, c')] := by unfold mput; rw [mget_one, if_pos (show (some c).isSome = true from rfl)]; simp
theorem ctOf_lrn (a : Int) (l : List Ky) (i : Nat) : ctOf (lrn a l i) a = ctP l i := by
  unfold ctOf lrn
  split
  · rename_i h
    subst h
    unfold ctP newCt Ct.zero
    simp [mget]
  · rw [mget_one]; rfl
theorem set_app {α : Type} (l r : List α) (x y : α) (h : r = y :: r.tail) : (l ++ r).set l.length x = l ++ x :: r.tail := by
  rw [List.set_append_right _ _ (Nat.le_refl _), Nat.sub_self, h]
  rfl
theorem rep_cons {α : Type} {n : Nat} (z : α) (h : 0 < n) : List.replicate n z = z :: List.replicate (n - 1) z := by
  cases n with
  | zero => omega
  | succ n => rfl
theorem learn_ctP {l : List Ky} {i : Nat} (hl : l.length ≤ 4) {k : Ky} (hk : l[i]? = some k) : learnT (ctP l i) i k = ctP l (i + 1) := by
  have hi := (List.getElem?_eq_some_iff.1 hk).1
  have e1 : (l.take i ++ List.replicate (4 - i) Ky.zero).set i k = l.take (i + 1) ++ List.replicate (4 - (i + 1)) Ky.zero := by
    have h1 : (l.take i).length = i := by rw [List.length_take]; omega
    rw [rep_cons Ky.zero (show 0 < 4 - i by omega)]
    have := set_app (l.take i) (Ky.zero :: List.replicate (4 - i - 1) Ky.zero) k Ky.zero rfl
    rw [h1] at this
    rw [this, take_snocK hk, List.append_assoc, show 4 - (i + 1) = 4 - i - 1 by omega]
    rfl
  have e2 : (List.replicate i true ++ List.replicate (4 - i) false).set i true = List.replicate (i + 1) true ++ List.replicate (4 - (i + 1)) false := by
    have h1 : (List.replicate i true).length = i := List.length_replicate
    rw [rep_cons false (show 0 < 4 - i by omega)]
    have := set_app (List.replicate i true) (false :: List.replicate (4 - i - 1) false) true false rfl
    rw [h1] at this
    rw [this, show 4 - (i + 1) = 4 - i - 1 by omega, List.replicate_succ', List.append_assoc]
    rfl
  unfold learnT ctP
  dsimp only
  rw [e1, e2, if_neg (by rintro ⟨h, _⟩; cases h)]
theorem lrn_next {a : Int} {l : List Ky} {i : Nat} (hl : l.length ≤ 4) {k : Ky} (hk : l[i]? = some k) : learnC (lrn a l i) a i k = lrn a l (i + 1) := by
  unfold learnC
  rw [ctOf_lrn, learn_ctP hl hk]
  unfold lrn
  rw [if_neg (Nat.succ_ne_zero i)]
  split
  · rfl
  · exact mput_one _ _ _
theorem kys_rep : ∀ (l : List Ky) (n : Nat), kysOf (l ++ List.replicate n Ky.zero) (List.replicate l.length true ++ List.replicate n false) = l
  | [], 0 => rfl
  | [], n + 1 => by
    have ih := kys_rep [] n
    simp only [List.nil_append, List.length_nil, List.replicate_zero] at ih ⊢
    rw [List.replicate_succ, List.replicate_succ]
    unfold kysOf
    rw [if_neg (by decide)]
    exact ih
  | k :: l, n => by
    have ih := kys_rep l n
    rw [List.length_cons, List.replicate_succ, List.cons_append, List.cons_append]
    unfold kysOf
    rw [if_pos rfl, ih]
theorem ctP_all {l : List Ky} : ctP l l.length = ⟨l ++ List.replicate (4 - l.length) Ky.zero, List.replicate l.length true ++ List.replicate (4 - l.length) false, 1⟩ := by
  unfold ctP
  rw [List.take_length]
theorem kys_ctP (l : List Ky) : (ctP l l.length).kys = l := by
  rw [ctP_all]
  exact kys_rep l _
theorem kysAt_one (a : Int) (c : Ct) : kysAt [(a, c)] a = c.kys := by unfold kysAt; rw [mget_one]; rfl
theorem stOf_one (a : Int) (c : Ct) : stOf [(a, c)] a = c.st := by unfold stOf; rw [mget_one]; rfl
theorem setSt_one (a : Int) (c : Ct) (s : Int) : setSt [(a, c)] a s = [(a, { c with st := s })] := by unfold setSt; rw [mget_one]; exact mput_one _ _ _
theorem lrn_all {a : Int} {l : List Ky} (h : 1 ≤ l.length) : lrn a l l.length = [(a, ctP l l.length)] := by unfold lrn; rw [if_neg (by omega)]

/-! ### What they tell -/
theorem numT_ne {acc : Int} {own : List Ky} {a : Int} {l : List Ky} (h : 1 ≤ l.length) : numT acc own a l = numF (digF acc own) (digF a l) := by unfold numT; rw [if_neg (by omega)]
theorem meets (a b : Int) (x y : List Ky) (hx : 1 ≤ x.length) (hy : 1 ≤ y.length) : numT a (setK x) b y = numT b (setK y) a x.reverse := by
  rw [numT_ne hy, numT_ne (by rw [List.length_reverse]; exact hx), numF_comm]
  rw [digF_congr (acc := a) (l := setK x) (l' := x.reverse) (by rw [setK_idem]; exact setK_congr fun k => List.mem_reverse.symm)]
  rw [digF_congr (acc := b) (l := y) (l' := setK y) (setK_idem y).symm]
/-- The book behind a key that is another one. -/
theorem other_key {b : Int} {y : List Ky} {o : Ky} (hy : y.length ≤ 4) (ho : o ∉ y) {j : Nat} (hj : j < y.length) :
    ∃ c3 : Ct, learnC [(b, { ctP y y.length with st := 2 })] b j o = [(b, c3)] ∧ c3.st = 3 ∧ 0 < c3.kys.length := by
  have hco : ctOf [(b, ({ ctP y y.length with st := 2 } : Ct))] b = { ctP y y.length with st := 2 } := by unfold ctOf; rw [mget_one]; rfl
  refine ⟨learnT { ctP y y.length with st := 2 } j o, ?_, ?_, ?_⟩
  · unfold learnC
    rw [hco]
    exact mput_one _ _ _
  · rw [ctP_all]
    unfold learnT
    dsimp only
    have hks : (y ++ List.replicate (4 - y.length) Ky.zero).getD j Ky.zero = y[j] := by
      rw [List.getD_eq_getElem?_getD, List.getElem?_append_left hj, List.getElem?_eq_getElem hj]; rfl
    rw [hks, decide_eq_false (show ¬ y[j] = o from fun e => ho (e ▸ List.getElem_mem hj)), Bool.and_false, if_pos ⟨rfl, rfl⟩]
  · rw [ctP_all]
    unfold learnT Ct.kys
    dsimp only
    cases y with
    | nil => cases hj
    | cons k y =>
      rw [List.cons_append, List.length_cons, List.replicate_succ, List.cons_append]
      cases j with
      | zero => rw [List.set_cons_zero, List.set_cons_zero]; unfold kysOf; rw [if_pos rfl]; exact Nat.succ_pos _
      | succ j => rw [List.set_cons_succ, List.set_cons_succ]; unfold kysOf; rw [if_pos rfl]; exact Nat.succ_pos _
end Go.Proofs.YtfobhdmhjjafcaaGreatDoorRR

namespace Go.Proofs.YtfobhdmhjjafcaaGreatDoorRR
open Go Go.RowKit
theorem keyK : KeyT Tryz.prog 30 (fun _ : Ky => True) kyV :=
  KeyT.flat (m := 5) (ks := List.replicate 32 (some .u8)) (by kernel_rfl) (by decide) (by kernel_rfl) (by kernel_rfl) (by kernel_rfl) (by kernel_rfl) (by kernel_rfl) (by kernel_rfl) (fun x _ => x.fits) (fun x y _ _ h => Ky.ext (ints_injK h))
def vvK (_ : Unit) : Value := .agg #[]
theorem rd_keys {w : World} {v : Value} {xs : List Ky} (h : Rd w 32 v xs.length (vcs kyV xs)) : ∃ ao cap, v = .slice ao xs.length cap ∧ xs.length ≤ cap ∧ cap ≤ maxLen := h.form
set_option maxHeartbeats 6400000 in
set_option maxRecDepth 100000 in
theorem meets_any (m : Int) (a b : Int) (ha : 0 ≤ a ∧ a < 256) (hb : 0 ≤ b ∧ b < 256) (x y : List Ky) (xv yv : Value) (o : Ky) (at0 : Nat) (hat : at0 < 256) (w : World)
    (hw : OK w (fpL [rdR xv 32 x.length (vcs kyV x), rdR yv 32 y.length (vcs kyV y), rdR mxV 1 1 [.int .i64 m]]) [rdR xv 32 x.length (vcs kyV x), rdR yv 32 y.length (vcs kyV y), rdR mxV 1 1 [.int .i64 m]] w) (hxl : x.length ≤ 2000000) (hyl : y.length ≤ 2000000) :
    Fn Tryz.prog 4 [.int .u8 a, .int .u8 b, xv, yv, kyV o, .int .u8 (at0 : Int)] [rdR xv 32 x.length (vcs kyV x), rdR yv 32 y.length (vcs kyV y), rdR mxV 1 1 [.int .i64 m]] w (fun _ : Unit => True) (fun _ => .bool true) (fun _ => []) := by
  obtain ⟨ax, cx, rfl, hcx, hmx⟩ := rd_keys (hw.get .head)
  obtain ⟨ay, cy, rfl, hcy, hmy⟩ := rd_keys (hw.get (.tail .head))
  unfold kyV
  refine enterF Tryz.func4 rfl Tryz.ntmps4 rfl hw ?_
  refine WC.seq ?_
  refine WC.region ?_
  refine WL.to (To.box (cs := o.cells) rfl rfl) rfl ?_ -- t10
  intro b10
  refine WL.y (Yl.assign rfl) rfl ?_ -- t12
  refine WL.nil ?_
  refine WC.seq ?_
  refine WC.seq ?_
  refine WC.region ?_
  refine WL.callC (xs := []) (cap := []) rfl rfl en6 (by repeat (first | exact TakeL.nil | (apply TakeL.cons; · repeat (first | exact Take1.head | apply Take1.tail)))) (fun w hw => known_any m w (hw.src (A := []) (r := rdR mxV 1 1 [.int .i64 m]) RdOf.rd' (by repeat (first | exact Take1.head | apply Take1.tail))) hw.left.here) rfl ?_ -- t26 hailer/hailerlaw37.known
  rintro ⟨⟩ -
  refine WL.y (Yl.not rfl) rfl ?_ -- t27
  refine WL.know (t := 27) (b' := false) rfl (by first | rfl | (simp; done) | (simp; omega)) ?_
  refine WL.nil ?_
  refine WC.condF rfl (by first | rfl | (simp; done) | (simp; omega)) ?_
  refine WC.skip ?_
  refine WC.seq ?_
  refine WC.region ?_
  refine WL.to (To.makeMap kyV vvK) rfl ?_ -- t28
  intro b28
  refine WL.y (Yl.loadN (T := 30) (cs := o.cells) (cs' := o.cells) ag30 rfl (by repeat (first | exact Take1.head | apply Take1.tail)) (Nat.ble_eq_true_of_le (by rw [o.clen]; omega)) (by rw [List.drop_zero, List.take_of_length_le (by rw [o.clen]; omega)])) rfl ?_
  refine WL.y (Yl.build rfl (cs := []) (fun _ => by kernel_rfl)) rfl ?_ -- t30
  refine WL.sto (Sto.mapIns (Sto.mapPut (kv := kyV) (vv := vvK) (m := []) (q := o) (v := ()) keyK un32 (fun _ _ => trivial) rfl rfl trivial rfl (by repeat (first | exact Take1.head | apply Take1.tail)))) (fun _ h => nomatch h) ?_
  rw [show mput ([] : List (Ky × Unit)) o () = seen0 o from rfl]
  refine WL.y (Yl.move rfl) rfl ?_ -- t31
  refine WL.y (Yl.assign rfl) rfl ?_ -- t13
  refine WL.nil ?_
  refine WC.seq ?_
  refine WC.seq ?_
  refine WC.region ?_
  refine WL.to (To.buildSlice (vs := []) un22 zs30 rfl rfl (by simp) (by decide) (by decide)) rfl ?_
  intro b32
  rw [show flat [] = [] from rfl]
  refine WL.view (fun w h => h.blkOwn (b := b32) (size := 32) (n := 0) (by repeat (first | exact Take1.head | apply Take1.tail)) (by unfold maxLen; omega) rfl) ?_
  refine WL.y (Yl.move rfl) rfl ?_ -- t33
  refine WL.to (To.append sl22 rfl rfl (by repeat (first | exact Take1.head | apply Take1.tail)) (Reads.of (r := rdR (.slice ax x.length cx) 32 x.length (vcs kyV x)) RdOf.rd' (by repeat (first | exact Take1.head | apply Take1.tail))) (vtK.ones _) (Nat.zero_add _) (List.nil_append _) (by unfold maxLen; omega) (by omega)) rfl ?_ -- t34
  rintro ⟨⟨ao34, c34⟩, hc34⟩
  dsimp only at hc34 ⊢
  refine WL.y (Yl.move rfl) rfl ?_ -- t35
  refine WL.to (To.append sl22 rfl rfl (by repeat (first | exact Take1.head | apply Take1.tail)) (Reads.of (r := rdR (.slice ay y.length cy) 32 y.length (vcs kyV y)) RdOf.rd' (by repeat (first | exact Take1.head | apply Take1.tail))) (vtK.ones _) (show x.length + y.length = (x ++ y).length by rw [List.length_append]) (show vcs kyV x ++ vcs kyV y = vcs kyV (x ++ y) by rw [vcs_app]) (by rw [List.length_append]; unfold maxLen; omega) (by rw [List.length_append]; omega)) rfl ?_ -- t36
  rintro ⟨⟨ao36, c36⟩, hc36⟩
  dsimp only at hc36 ⊢
  refine WL.y (Yl.len un22 rfl) rfl ?_ -- t37
  refine WL.y (Yl.move rfl) rfl ?_ -- t38
  refine WL.nil ?_
  refine WC.block ?_
  obtain ⟨z, hz⟩ : ∃ z, x ++ y = z := ⟨_, rfl⟩
  have hzl : z.length = x.length + y.length := by rw [← hz, List.length_append]
  rw [hz]
  refine WC.loop (α := Nat) (fun i => [(0, .int .u8 a), (1, .int .u8 b), (2, .slice ax x.length cx), (3, .slice ay y.length cy), (5, .int .u8 (at0 : Int)), (10, .pointer (some ⟨b10, 0, none⟩)), (13, .map (some b28)), (36, .slice ao36 z.length c36), (37, .int .i64 (z.length : Int)), (38, .int .i64 (i : Int))]) (fun i => [blkR b10 30 o.cells, mapR kyV vvK b28 (seenL (seen0 o) (z.take i)), rwK (.slice ao36 z.length c36) z.length z, rdR (.slice ax x.length cx) 32 x.length (vcs kyV x), rdR (.slice ay y.length cy) 32 y.length (vcs kyV y), rdR mxV 1 1 [.int .i64 m]]) (fun i => i ≤ z.length) (fun i => z.length - i) 0 (Nat.zero_le _) ⟨(by repeat (first | exact Sub.nil | refine Sub.cons rfl ?_)), _, (by repeat (first | exact TakeL.nil | (apply TakeL.cons; · repeat (first | exact Take1.head | apply Take1.tail))))⟩ ?_
  intro i hi
  refine WC.seq ?_
  refine WC.region ?_
  refine WL.y (Yl.lss rfl rfl) rfl ?_ -- t39
  refine WL.nil ?_
  refine WC.seq ?_
  refine WC.condD rfl (fun g39 => ?_) (fun g39 => ?_)
  · refine WC.skip ?_
    refine WC.seq ?_
    refine WC.block ?_
    refine WC.seq ?_
    refine WC.region ?_
    have hil : i < z.length := by omega
    obtain ⟨k, hk⟩ : ∃ k, z[i]? = some k := ⟨_, List.getElem?_eq_getElem hil⟩
    refine WL.y (Yl.index un22 sz30 rfl rfl (Reads.of (r := rwK (.slice ao36 z.length c36) z.length z) RdOf.own (by repeat (first | exact Take1.head | apply Take1.tail))) rfl (by omega)) rfl ?_ -- t40
    refine WL.y (Yl.loadV (j := i) (u := k) vtK (fun _ _ => trivial) rfl (Reads.of (r := rwK (.slice ao36 z.length c36) z.length z) RdOf.own (by repeat (first | exact Take1.head | apply Take1.tail))) rfl hk) rfl ?_
    refine WL.to (To.alloc (cs := ints .u8 (List.replicate 32 0)) zr30 rfl) rfl ?_ -- t15
    intro b15
    refine WL.sto (Sto.agg sz30 rfl rfl (by repeat (first | exact Take1.head | apply Take1.tail)) k.ones k.clen (by rfl) (putAll rfl)) (fun _ h => nomatch h) ?_ -- st 2
    refine WL.nil ?_
    refine WC.region ?_
    refine WL.y (Yl.move rfl) rfl ?_ -- t42
    refine WL.y (Yl.loadN (T := 30) (cs := k.cells) (cs' := k.cells) ag30 rfl (by repeat (first | exact Take1.head | apply Take1.tail)) (Nat.ble_eq_true_of_le (by rw [k.clen]; omega)) (by rw [List.drop_zero, List.take_of_length_le (by rw [k.clen]; omega)])) rfl ?_
    refine WL.y (Yl.build rfl (cs := []) (fun _ => by kernel_rfl)) rfl ?_ -- t44
    refine WL.sto (Sto.mapPut (kv := kyV) (vv := vvK) (m := seenL (seen0 o) (z.take i)) (q := k) (v := ()) keyK un32 (fun _ _ => trivial) rfl rfl trivial rfl (by repeat (first | exact Take1.head | apply Take1.tail))) (fun _ h => nomatch h) ?_
    rw [← seen_snoc, ← take_snocK hk]
    refine WL.nil ?_
    refine WC.region ?_
    refine WL.y (Yl.add rfl rfl (IntWalk.i64_in _ (by omega))) rfl ?_ -- t45
    refine WL.y (Yl.move rfl) rfl ?_ -- t38
    refine WL.nil ?_
    exact ⟨rfl, i + 1, by omega, by omega, (by repeat (first | exact Sub.nil | refine Sub.cons rfl ?_)), _, (by repeat (first | exact TakeL.nil | (apply TakeL.cons; · repeat (first | exact Take1.head | apply Take1.tail))))⟩
  · refine WC.exit ?_
    refine WC.seq ?_
    refine WC.midX (α := Bool) (fun q => [(0, .int .u8 a), (1, .int .u8 b), (2, .slice ax x.length cx), (3, .slice ay y.length cy), (5, .int .u8 (at0 : Int)), (10, .pointer (some ⟨b10, 0, none⟩)), (87, .bool q)]) (fun _ => [blkR b10 30 o.cells, rdR (.slice ax x.length cx) 32 x.length (vcs kyV x), rdR (.slice ay y.length cy) 32 y.length (vcs kyV y), rdR mxV 1 1 [.int .i64 m]]) (fun q => q = false → (1 ≤ x.length ∧ x.length ≤ 4 ∧ 1 ≤ y.length ∧ y.length ≤ 4) ∧ a ≠ b ∧ a ≤ 7 ∧ b ≤ 7 ∧ o ∉ y) ?_ ?_
    · have hil : i = z.length := by omega
      subst hil
      rw [List.take_length]
      refine WC.region ?_
      refine WL.y (Yl.move rfl) rfl ?_ -- t46
      refine WL.y (Yl.len un22 rfl) rfl ?_ -- t47
      refine WL.y (Yl.lss rfl rfl) rfl ?_ -- t48
      refine WL.y (Yl.move rfl) rfl ?_ -- t49
      refine WL.both (t := 49) rfl (fun g49 => ?_) (fun g49 => ?_)
      · refine WL.off rfl rfl rfl rfl ?_ -- t50
        refine WL.off rfl rfl rfl rfl ?_ -- t51
        refine WL.off rfl rfl rfl rfl ?_ -- t52
        refine WL.y (Yl.pickT rfl rfl) rfl ?_ -- t53
        refine WL.y (Yl.move rfl) rfl ?_ -- t54
        refine WL.off rfl rfl rfl rfl ?_ -- t55
        refine WL.off rfl rfl rfl rfl ?_ -- t56
        refine WL.off rfl rfl rfl rfl ?_ -- t57
        refine WL.y (Yl.pickT rfl rfl) rfl ?_ -- t58
        refine WL.y (Yl.move rfl) rfl ?_ -- t59
        refine WL.off rfl rfl rfl rfl ?_ -- t60
        refine WL.off rfl rfl rfl rfl ?_ -- t61
        refine WL.off rfl rfl rfl rfl ?_ -- t62
        refine WL.y (Yl.pickT rfl rfl) rfl ?_ -- t63
        refine WL.y (Yl.move rfl) rfl ?_ -- t64
        refine WL.off rfl rfl rfl rfl ?_ -- t65
        refine WL.off rfl rfl rfl rfl ?_ -- t66
        refine WL.off rfl rfl rfl rfl ?_ -- t67
        refine WL.y (Yl.pickT rfl rfl) rfl ?_ -- t68
        refine WL.y (Yl.move rfl) rfl ?_ -- t69
        refine WL.off rfl rfl rfl rfl ?_ -- t70
        refine WL.off rfl rfl rfl rfl ?_ -- t71
        refine WL.y (Yl.pickT rfl rfl) rfl ?_ -- t72
        refine WL.y (Yl.move rfl) rfl ?_ -- t73
        refine WL.off rfl rfl rfl rfl ?_ -- t74
        refine WL.off rfl rfl rfl rfl ?_ -- t75
        refine WL.y (Yl.pickT rfl rfl) rfl ?_ -- t76
        refine WL.y (Yl.move rfl) rfl ?_ -- t77
        refine WL.off rfl rfl rfl rfl ?_ -- t78
        refine WL.off rfl rfl rfl rfl ?_ -- t79
        refine WL.off rfl rfl rfl rfl ?_ -- t80
        refine WL.off rfl rfl rfl rfl ?_ -- t81
        refine WL.off rfl rfl rfl rfl ?_ -- t82
        refine WL.off rfl rfl rfl rfl ?_ -- t83
        refine WL.off rfl rfl rfl rfl ?_ -- t84
        refine WL.off rfl rfl rfl rfl ?_ -- t85
        refine WL.off rfl rfl rfl rfl ?_ -- t86
        refine WL.y (Yl.pickT rfl rfl) rfl ?_ -- t87
        refine WL.nil ?_
        refine ⟨rfl, _, ?_, (by repeat (first | exact Sub.nil | refine Sub.cons rfl ?_)), _, (by repeat (first | exact TakeL.nil | (apply TakeL.cons; · repeat (first | exact Take1.head | apply Take1.tail))))⟩
        first
        | exact fun h => by cases h
        | exact fun h => by
            have h2 := of_decide_eq_false h
            refine ⟨⟨by first | omega | (simp_all; done) | (simp_all; omega), by first | omega | (simp_all; done) | (simp_all; omega), by first | omega | (simp_all; done) | (simp_all; omega), by first | omega | (simp_all; done) | (simp_all; omega)⟩, by simp_all, by first | omega | (simp_all; done) | (simp_all; omega), by first | omega | (simp_all; done) | (simp_all; omega), not_seen (x := x) ?_⟩
            rw [hz]
            first | omega | (simp_all; done) | (simp_all; omega)
      · refine WL.on rfl rfl ?_
        refine WL.y (Yl.move rfl) rfl ?_ -- t50
        refine WL.on rfl rfl ?_
        refine WL.y (Yl.len un22 rfl) rfl ?_ -- t51
        refine WL.on rfl rfl ?_
        refine WL.y (Yl.gtr rfl rfl) rfl ?_ -- t52
        refine WL.y (Yl.pickF rfl rfl) rfl ?_ -- t53
        refine WL.y (Yl.move rfl) rfl ?_ -- t54
        refine WL.both (t := 54) rfl (fun g54 => ?_) (fun g54 => ?_)
        · refine WL.off rfl rfl rfl rfl ?_ -- t55
          refine WL.off rfl rfl rfl rfl ?_ -- t56
          refine WL.off rfl rfl rfl rfl ?_ -- t57
          refine WL.y (Yl.pickT rfl rfl) rfl ?_ -- t58
          refine WL.y (Yl.move rfl) rfl ?_ -- t59
          refine WL.off rfl rfl rfl rfl ?_ -- t60
          refine WL.off rfl rfl rfl rfl ?_ -- t61
          refine WL.off rfl rfl rfl rfl ?_ -- t62
          refine WL.y (Yl.pickT rfl rfl) rfl ?_ -- t63
          refine WL.y (Yl.move rfl) rfl ?_ -- t64
          refine WL.off rfl rfl rfl rfl ?_ -- t65
          refine WL.off rfl rfl rfl rfl ?_ -- t66
          refine WL.off rfl rfl rfl rfl ?_ -- t67
          refine WL.y (Yl.pickT rfl rfl) rfl ?_ -- t68
          refine WL.y (Yl.move rfl) rfl ?_ -- t69
          refine WL.off rfl rfl rfl rfl ?_ -- t70
          refine WL.off rfl rfl rfl rfl ?_ -- t71
          refine WL.y (Yl.pickT rfl rfl) rfl ?_ -- t72
          refine WL.y (Yl.move rfl) rfl ?_ -- t73
          refine WL.off rfl rfl rfl rfl ?_ -- t74
          refine WL.off rfl rfl rfl rfl ?_ -- t75
          refine WL.y (Yl.pickT rfl rfl) rfl ?_ -- t76
          refine WL.y (Yl.move rfl) rfl ?_ -- t77
          refine WL.off rfl rfl rfl rfl ?_ -- t78
          refine WL.off rfl rfl rfl rfl ?_ -- t79
          refine WL.off rfl rfl rfl rfl ?_ -- t80
          refine WL.off rfl rfl rfl rfl ?_ -- t81
          refine WL.off rfl rfl rfl rfl ?_ -- t82
          refine WL.off rfl rfl rfl rfl ?_ -- t83
          refine WL.off rfl rfl rfl rfl ?_ -- t84
          refine WL.off rfl rfl rfl rfl ?_ -- t85
          refine WL.off rfl rfl rfl rfl ?_ -- t86
          refine WL.y (Yl.pickT rfl rfl) rfl ?_ -- t87
          refine WL.nil ?_
          refine ⟨rfl, _, ?_, (by repeat (first | exact Sub.nil | refine Sub.cons rfl ?_)), _, (by repeat (first | exact TakeL.nil | (apply TakeL.cons; · repeat (first | exact Take1.head | apply Take1.tail))))⟩
          first
          | exact fun h => by cases h
          | exact fun h => by
              have h2 := of_decide_eq_false h
              refine ⟨⟨by first | omega | (simp_all; done) | (simp_all; omega), by first | omega | (simp_all; done) | (simp_all; omega), by first | omega | (simp_all; done) | (simp_all; omega), by first | omega | (simp_all; done) | (simp_all; omega)⟩, by simp_all, by first | omega | (simp_all; done) | (simp_all; omega), by first | omega | (simp_all; done) | (simp_all; omega), not_seen (x := x) ?_⟩
              rw [hz]
              first | omega | (simp_all; done) | (simp_all; omega)
        · refine WL.on rfl rfl ?_
          refine WL.y (Yl.move rfl) rfl ?_ -- t55
          refine WL.on rfl rfl ?_
          refine WL.y (Yl.len un22 rfl) rfl ?_ -- t56
          refine WL.on rfl rfl ?_
          refine WL.y (Yl.lss rfl rfl) rfl ?_ -- t57
          refine WL.y (Yl.pickF rfl rfl) rfl ?_ -- t58
          refine WL.y (Yl.move rfl) rfl ?_ -- t59
          refine WL.both (t := 59) rfl (fun g59 => ?_) (fun g59 => ?_)
          · refine WL.off rfl rfl rfl rfl ?_ -- t60
            refine WL.off rfl rfl rfl rfl ?_ -- t61
            refine WL.off rfl rfl rfl rfl ?_ -- t62
            refine WL.y (Yl.pickT rfl rfl) rfl ?_ -- t63
            refine WL.y (Yl.move rfl) rfl ?_ -- t64
            refine WL.off rfl rfl rfl rfl ?_ -- t65
            refine WL.off rfl rfl rfl rfl ?_ -- t66
            refine WL.off rfl rfl rfl rfl ?_ -- t67
            refine WL.y (Yl.pickT rfl rfl) rfl ?_ -- t68
            refine WL.y (Yl.move rfl) rfl ?_ -- t69
            refine WL.off rfl rfl rfl rfl ?_ -- t70
            refine WL.off rfl rfl rfl rfl ?_ -- t71
            refine WL.y (Yl.pickT rfl rfl) rfl ?_ -- t72
            refine WL.y (Yl.move rfl) rfl ?_ -- t73
            refine WL.off rfl rfl rfl rfl ?_ -- t74
            refine WL.off rfl rfl rfl rfl ?_ -- t75
            refine WL.y (Yl.pickT rfl rfl) rfl ?_ -- t76
            refine WL.y (Yl.move rfl) rfl ?_ -- t77
            refine WL.off rfl rfl rfl rfl ?_ -- t78
            refine WL.off rfl rfl rfl rfl ?_ -- t79
            refine WL.off rfl rfl rfl rfl ?_ -- t80
            refine WL.off rfl rfl rfl rfl ?_ -- t81
            refine WL.off rfl rfl rfl rfl ?_ -- t82
            refine WL.off rfl rfl rfl rfl ?_ -- t83
            refine WL.off rfl rfl rfl rfl ?_ -- t84
            refine WL.off rfl rfl rfl rfl ?_ -- t85
            refine WL.off rfl rfl rfl rfl ?_ -- t86
            refine WL.y (Yl.pickT rfl rfl) rfl ?_ -- t87
            refine WL.nil ?_
            refine ⟨rfl, _, ?_, (by repeat (first | exact Sub.nil | refine Sub.cons rfl ?_)), _, (by repeat (first | exact TakeL.nil | (apply TakeL.cons; · repeat (first | exact Take1.head | apply Take1.tail))))⟩
            first
            | exact fun h => by cases h
            | exact fun h => by
                have h2 := of_decide_eq_false h
                refine ⟨⟨by first | omega | (simp_all; done) | (simp_all; omega), by first | omega | (simp_all; done) | (simp_all; omega), by first | omega | (simp_all; done) | (simp_all; omega), by first | omega | (simp_all; done) | (simp_all; omega)⟩, by simp_all, by first | omega | (simp_all; done) | (simp_all; omega), by first | omega | (simp_all; done) | (simp_all; omega), not_seen (x := x) ?_⟩
                rw [hz]
                first | omega | (simp_all; done) | (simp_all; omega)
          · refine WL.on rfl rfl ?_
            refine WL.y (Yl.move rfl) rfl ?_ -- t60
            refine WL.on rfl rfl ?_
            refine WL.y (Yl.len un22 rfl) rfl ?_ -- t61
            refine WL.on rfl rfl ?_
            refine WL.y (Yl.gtr rfl rfl) rfl ?_ -- t62
            refine WL.y (Yl.pickF rfl rfl) rfl ?_ -- t63
            refine WL.y (Yl.move rfl) rfl ?_ -- t64
            refine WL.both (t := 64) rfl (fun g64 => ?_) (fun g64 => ?_)
            · refine WL.off rfl rfl rfl rfl ?_ -- t65
              refine WL.off rfl rfl rfl rfl ?_ -- t66
              refine WL.off rfl rfl rfl rfl ?_ -- t67
              refine WL.y (Yl.pickT rfl rfl) rfl ?_ -- t68
              refine WL.y (Yl.move rfl) rfl ?_ -- t69
              refine WL.off rfl rfl rfl rfl ?_ -- t70
              refine WL.off rfl rfl rfl rfl ?_ -- t71
              refine WL.y (Yl.pickT rfl rfl) rfl ?_ -- t72
              refine WL.y (Yl.move rfl) rfl ?_ -- t73
              refine WL.off rfl rfl rfl rfl ?_ -- t74
              refine WL.off rfl rfl rfl rfl ?_ -- t75
              refine WL.y (Yl.pickT rfl rfl) rfl ?_ -- t76
              refine WL.y (Yl.move rfl) rfl ?_ -- t77
              refine WL.off rfl rfl rfl rfl ?_ -- t78
              refine WL.off rfl rfl rfl rfl ?_ -- t79
              refine WL.off rfl rfl rfl rfl ?_ -- t80
              refine WL.off rfl rfl rfl rfl ?_ -- t81
              refine WL.off rfl rfl rfl rfl ?_ -- t82
              refine WL.off rfl rfl rfl rfl ?_ -- t83
              refine WL.off rfl rfl rfl rfl ?_ -- t84
              refine WL.off rfl rfl rfl rfl ?_ -- t85
              refine WL.off rfl rfl rfl rfl ?_ -- t86
              refine WL.y (Yl.pickT rfl rfl) rfl ?_ -- t87
              refine WL.nil ?_
              refine ⟨rfl, _, ?_, (by repeat (first | exact Sub.nil | refine Sub.cons rfl ?_)), _, (by repeat (first | exact TakeL.nil | (apply TakeL.cons; · repeat (first | exact Take1.head | apply Take1.tail))))⟩
              first
              | exact fun h => by cases h
              | exact fun h => by
                  have h2 := of_decide_eq_false h
                  refine ⟨⟨by first | omega | (simp_all; done) | (simp_all; omega), by first | omega | (simp_all; done) | (simp_all; omega), by first | omega | (simp_all; done) | (simp_all; omega), by first | omega | (simp_all; done) | (simp_all; omega)⟩, by simp_all, by first | omega | (simp_all; done) | (simp_all; omega), by first | omega | (simp_all; done) | (simp_all; omega), not_seen (x := x) ?_⟩
                  rw [hz]
                  first | omega | (simp_all; done) | (simp_all; omega)
            · refine WL.on rfl rfl ?_
              refine WL.y (Yl.move rfl) rfl ?_ -- t65
              refine WL.on rfl rfl ?_
              refine WL.y (Yl.move rfl) rfl ?_ -- t66
              refine WL.on rfl rfl ?_
              refine WL.y (Yl.eql rfl rfl) rfl ?_ -- t67
              refine WL.y (Yl.pickF rfl rfl) rfl ?_ -- t68
              refine WL.y (Yl.move rfl) rfl ?_ -- t69
              refine WL.both (t := 69) rfl (fun g69 => ?_) (fun g69 => ?_)
              · refine WL.off rfl rfl rfl rfl ?_ -- t70
                refine WL.off rfl rfl rfl rfl ?_ -- t71
                refine WL.y (Yl.pickT rfl rfl) rfl ?_ -- t72
                refine WL.y (Yl.move rfl) rfl ?_ -- t73
                refine WL.off rfl rfl rfl rfl ?_ -- t74
                refine WL.off rfl rfl rfl rfl ?_ -- t75
                refine WL.y (Yl.pickT rfl rfl) rfl ?_ -- t76
                refine WL.y (Yl.move rfl) rfl ?_ -- t77
                refine WL.off rfl rfl rfl rfl ?_ -- t78
                refine WL.off rfl rfl rfl rfl ?_ -- t79
                refine WL.off rfl rfl rfl rfl ?_ -- t80
                refine WL.off rfl rfl rfl rfl ?_ -- t81
                refine WL.off rfl rfl rfl rfl ?_ -- t82
                refine WL.off rfl rfl rfl rfl ?_ -- t83
                refine WL.off rfl rfl rfl rfl ?_ -- t84
                refine WL.off rfl rfl rfl rfl ?_ -- t85
                refine WL.off rfl rfl rfl rfl ?_ -- t86
                refine WL.y (Yl.pickT rfl rfl) rfl ?_ -- t87
                refine WL.nil ?_
                refine ⟨rfl, _, ?_, (by repeat (first | exact Sub.nil | refine Sub.cons rfl ?_)), _, (by repeat (first | exact TakeL.nil | (apply TakeL.cons; · repeat (first | exact Take1.head | apply Take1.tail))))⟩
                first
                | exact fun h => by cases h
                | exact fun h => by
                    have h2 := of_decide_eq_false h
                    refine ⟨⟨by first | omega | (simp_all; done) | (simp_all; omega), by first | omega | (simp_all; done) | (simp_all; omega), by first | omega | (simp_all; done) | (simp_all; omega), by first | omega | (simp_all; done) | (simp_all; omega)⟩, by simp_all, by first | omega | (simp_all; done) | (simp_all; omega), by first | omega | (simp_all; done) | (simp_all; omega), not_seen (x := x) ?_⟩
                    rw [hz]
                    first | omega | (simp_all; done) | (simp_all; omega)
              · refine WL.on rfl rfl ?_
                refine WL.y (Yl.move rfl) rfl ?_ -- t70
                refine WL.on rfl rfl ?_
                refine WL.y (Yl.gtr rfl rfl) rfl ?_ -- t71
                refine WL.y (Yl.pickF rfl rfl) rfl ?_ -- t72
                refine WL.y (Yl.move rfl) rfl ?_ -- t73
                refine WL.both (t := 73) rfl (fun g73 => ?_) (fun g73 => ?_)
                · refine WL.off rfl rfl rfl rfl ?_ -- t74
                  refine WL.off rfl rfl rfl rfl ?_ -- t75
                  refine WL.y (Yl.pickT rfl rfl) rfl ?_ -- t76
                  refine WL.y (Yl.move rfl) rfl ?_ -- t77
                  refine WL.off rfl rfl rfl rfl ?_ -- t78
                  refine WL.off rfl rfl rfl rfl ?_ -- t79
                  refine WL.off rfl rfl rfl rfl ?_ -- t80
                  refine WL.off rfl rfl rfl rfl ?_ -- t81
                  refine WL.off rfl rfl rfl rfl ?_ -- t82
                  refine WL.off rfl rfl rfl rfl ?_ -- t83
                  refine WL.off rfl rfl rfl rfl ?_ -- t84
                  refine WL.off rfl rfl rfl rfl ?_ -- t85
                  refine WL.off rfl rfl rfl rfl ?_ -- t86
                  refine WL.y (Yl.pickT rfl rfl) rfl ?_ -- t87
                  refine WL.nil ?_
                  refine ⟨rfl, _, ?_, (by repeat (first | exact Sub.nil | refine Sub.cons rfl ?_)), _, (by repeat (first | exact TakeL.nil | (apply TakeL.cons; · repeat (first | exact Take1.head | apply Take1.tail))))⟩
                  first
                  | exact fun h => by cases h
                  | exact fun h => by
                      have h2 := of_decide_eq_false h
                      refine ⟨⟨by first | omega | (simp_all; done) | (simp_all; omega), by first | omega | (simp_all; done) | (simp_all; omega), by first | omega | (simp_all; done) | (simp_all; omega), by first | omega | (simp_all; done) | (simp_all; omega)⟩, by simp_all, by first | omega | (simp_all; done) | (simp_all; omega), by first | omega | (simp_all; done) | (simp_all; omega), not_seen (x := x) ?_⟩
                      rw [hz]
                      first | omega | (simp_all; done) | (simp_all; omega)
                · refine WL.on rfl rfl ?_
                  refine WL.y (Yl.move rfl) rfl ?_ -- t74
                  refine WL.on rfl rfl ?_
                  refine WL.y (Yl.gtr rfl rfl) rfl ?_ -- t75
                  refine WL.y (Yl.pickF rfl rfl) rfl ?_ -- t76
                  refine WL.y (Yl.move rfl) rfl ?_ -- t77
                  refine WL.both (t := 77) rfl (fun g77 => ?_) (fun g77 => ?_)
                  · refine WL.off rfl rfl rfl rfl ?_ -- t78
                    refine WL.off rfl rfl rfl rfl ?_ -- t79
                    refine WL.off rfl rfl rfl rfl ?_ -- t80
                    refine WL.off rfl rfl rfl rfl ?_ -- t81
                    refine WL.off rfl rfl rfl rfl ?_ -- t82
                    refine WL.off rfl rfl rfl rfl ?_ -- t83
                    refine WL.off rfl rfl rfl rfl ?_ -- t84
                    refine WL.off rfl rfl rfl rfl ?_ -- t85
                    refine WL.off rfl rfl rfl rfl ?_ -- t86
                    refine WL.y (Yl.pickT rfl rfl) rfl ?_ -- t87
                    refine WL.nil ?_
                    refine ⟨rfl, _, ?_, (by repeat (first | exact Sub.nil | refine Sub.cons rfl ?_)), _, (by repeat (first | exact TakeL.nil | (apply TakeL.cons; · repeat (first | exact Take1.head | apply Take1.tail))))⟩
                    first
                    | exact fun h => by cases h
                    | exact fun h => by
                        have h2 := of_decide_eq_false h
                        refine ⟨⟨by first | omega | (simp_all; done) | (simp_all; omega), by first | omega | (simp_all; done) | (simp_all; omega), by first | omega | (simp_all; done) | (simp_all; omega), by first | omega | (simp_all; done) | (simp_all; omega)⟩, by simp_all, by first | omega | (simp_all; done) | (simp_all; omega), by first | omega | (simp_all; done) | (simp_all; omega), not_seen (x := x) ?_⟩
                        rw [hz]
                        first | omega | (simp_all; done) | (simp_all; omega)
                  · refine WL.on rfl rfl ?_
                    refine WL.y (Yl.move rfl) rfl ?_ -- t78
                    refine WL.on rfl rfl ?_
                    refine WL.y (Yl.lenM un32 rfl (MReads.of (m := seenL (seen0 o) z) MapOf.own (by repeat (first | exact Take1.head | apply Take1.tail)))) rfl ?_ -- t79
                    refine WL.on rfl rfl ?_
                    refine WL.y (Yl.move rfl) rfl ?_ -- t80
                    refine WL.on rfl rfl ?_
                    refine WL.y (Yl.len un22 rfl) rfl ?_ -- t81
                    refine WL.on rfl rfl ?_
                    refine WL.y (Yl.move rfl) rfl ?_ -- t82
                    refine WL.on rfl rfl ?_
                    refine WL.y (Yl.len un22 rfl) rfl ?_ -- t83
                    refine WL.on rfl rfl ?_
                    refine WL.y (Yl.add rfl rfl (IntWalk.i64_in _ (by omega))) rfl ?_ -- t84
                    refine WL.on rfl rfl ?_
                    refine WL.y (Yl.add rfl rfl (IntWalk.i64_in _ (by omega))) rfl ?_ -- t85
                    refine WL.on rfl rfl ?_
                    refine WL.y (Yl.neq rfl rfl) rfl ?_ -- t86
                    refine WL.y (Yl.pickF rfl rfl) rfl ?_ -- t87
                    refine WL.nil ?_
                    refine ⟨rfl, _, ?_, (by repeat (first | exact Sub.nil | refine Sub.cons rfl ?_)), _, (by repeat (first | exact TakeL.nil | (apply TakeL.cons; · repeat (first | exact Take1.head | apply Take1.tail))))⟩
                    first
                    | exact fun h => by cases h
                    | exact fun h => by
                        have h2 := of_decide_eq_false h
                        refine ⟨⟨by first | omega | (simp_all; done) | (simp_all; omega), by first | omega | (simp_all; done) | (simp_all; omega), by first | omega | (simp_all; done) | (simp_all; omega), by first | omega | (simp_all; done) | (simp_all; omega)⟩, by simp_all, by first | omega | (simp_all; done) | (simp_all; omega), by first | omega | (simp_all; done) | (simp_all; omega), not_seen (x := x) ?_⟩
                        rw [hz]
                        first | omega | (simp_all; done) | (simp_all; omega)
    · rintro q hq
      refine WC.cond rfl (fun g87 => ?_) (fun g87 => ?_)
      · refine WC.seq ?_
        refine WC.region ?_
        refine WL.y (Yl.assign rfl) rfl ?_ -- t12
        refine WL.nil ?_
        refine WC.ret ?_
        repeat (first | (with_reducible refine peelT ?_) | (with_reducible refine peelB ?_) | (with_reducible refine peelTX ?_) | (with_reducible refine peelBX ?_) | (with_reducible refine peelBN ?_) | (with_reducible refine peelBO rfl ?_))
        exact ret1 (.inr rfl) Tryz.results4 rfl fun w' h => ⟨(), trivial, rfl, h.sub (by repeat (first | exact TakeL.nil | (apply TakeL.cons; · repeat (first | exact Take1.head | apply Take1.tail))))⟩
      · refine WC.skip ?_
        refine WC.seq ?_
        obtain ⟨⟨hx1, hx4, hy1, hy4⟩, hab, ha7, hb7, hoy⟩ := hq g87
        have hsx : (setK x).length ≤ 12 := by have := setK_len x; omega
        have hsy : (setK y).length ≤ 12 := by have := setK_len y; omega
        refine WC.region ?_
        refine WL.y (Yl.move rfl) rfl ?_ -- t89
        refine WL.y (Yl.move rfl) rfl ?_ -- t90
        refine WL.callC (xs := [.tmp 89, .tmp 90]) (cap := []) rfl rfl en13 (by repeat (first | exact TakeL.nil | (apply TakeL.cons; · repeat (first | exact Take1.head | apply Take1.tail)))) (fun w hw => new_any a (.slice ax x.length cx) x ⟨ha.1, by omega⟩ ⟨hx1, hx4⟩ w (hw.src (A := []) (r := rdR (.slice ax x.length cx) 32 x.length (vcs kyV x)) RdOf.rd' (by repeat (first | exact Take1.head | apply Take1.tail))) hw.left.here) rfl ?_ -- t91 hailer/trust.New
        rintro ⟨pb, ⟨pao, pcp⟩, pmb⟩ -
        dsimp only [List.cons_append, List.nil_append]
        refine WL.y (Yl.move rfl) rfl ?_ -- t88
        refine WL.y (Yl.extract rfl rfl) rfl ?_ -- t92
        refine WL.y (Yl.extract rfl rfl) rfl ?_ -- t93
        refine WL.y (Yl.assign rfl) rfl ?_ -- t16
        refine WL.y (Yl.assign rfl) rfl ?_ -- t17
        refine WL.nil ?_
        refine WC.seq ?_
        refine WC.region ?_
        refine WL.y (Yl.move rfl) rfl ?_ -- t95
        refine WL.y (Yl.move rfl) rfl ?_ -- t96
        refine WL.callC (xs := [.tmp 95, .tmp 96]) (cap := []) rfl rfl en13 (by repeat (first | exact TakeL.nil | (apply TakeL.cons; · repeat (first | exact Take1.head | apply Take1.tail)))) (fun w hw => new_any b (.slice ay y.length cy) y ⟨hb.1, by omega⟩ ⟨hy1, hy4⟩ w (hw.src (A := []) (r := rdR (.slice ay y.length cy) 32 y.length (vcs kyV y)) RdOf.rd' (by repeat (first | exact Take1.head | apply Take1.tail))) hw.left.here) rfl ?_ -- t97 hailer/trust.New
        rintro ⟨qb, ⟨qao, qcp⟩, qmb⟩ -
        dsimp only [List.cons_append, List.nil_append]
        refine WL.y (Yl.move rfl) rfl ?_ -- t94
        refine WL.y (Yl.extract rfl rfl) rfl ?_ -- t98
        refine WL.y (Yl.extract rfl rfl) rfl ?_ -- t99
        refine WL.y (Yl.assign rfl) rfl ?_ -- t18
        refine WL.y (Yl.assign rfl) rfl ?_ -- t19
        refine WL.nil ?_
        refine WC.seq ?_
        refine WC.seq ?_
        refine WC.region ?_
        refine WL.y (Yl.move rfl) rfl ?_ -- t100
        refine WL.y (Yl.neq rfl rfl) rfl ?_ -- t101
        refine WL.y (Yl.move rfl) rfl ?_ -- t102
        refine WL.know (t := 102) (b' := false) rfl (by first | rfl | (simp; done) | (simp; omega)) ?_
        refine WL.on rfl rfl ?_
        refine WL.y (Yl.move rfl) rfl ?_ -- t103
        refine WL.on rfl rfl ?_
        refine WL.y (Yl.neq rfl rfl) rfl ?_ -- t104
        refine WL.y (Yl.pickF rfl rfl) rfl ?_ -- t105
        refine WL.know (t := 105) (b' := false) rfl (by first | rfl | (simp; done) | (simp; omega)) ?_
        refine WL.nil ?_
        refine WC.condF rfl (by first | rfl | (simp; done) | (simp; omega)) ?_
        refine WC.skip ?_
        refine WC.seq ?_
        refine WC.seq ?_
        refine WC.region ?_
        refine WL.y (Yl.move rfl) rfl ?_ -- t106
        refine WL.y (Yl.len un22 rfl) rfl ?_ -- t107
        refine WL.y (Yl.move rfl) rfl ?_ -- t108
        refine WL.nil ?_
        refine WC.block ?_
        refine WC.loop (α := Nat × Es) (fun p => [(0, .int .u8 a), (1, .int .u8 b), (2, .slice ax x.length cx), (3, .slice ay y.length cy), (5, .int .u8 (at0 : Int)), (10, .pointer (some ⟨b10, 0, none⟩)), (16, .pointer (some ⟨pb, 0, none⟩)), (18, .pointer (some ⟨qb, 0, none⟩)), (107, .int .i64 (y.length : Int)), (108, .int .i64 (p.1 : Int))]) (fun p => bkL pb pao pcp pmb a (setK x) p.2 ++ (bkL qb qao qcp qmb b (setK y) [] ++ [blkR b10 30 o.cells, rdR (.slice ax x.length cx) 32 x.length (vcs kyV x), rdR (.slice ay y.length cy) 32 y.length (vcs kyV y), rdR mxV 1 1 [.int .i64 m]])) (fun p => p.1 ≤ y.length ∧ pj p.2 = lrn b y p.1 ∧ EG p.2) (fun p => y.length - p.1) (0, []) ⟨Nat.zero_le _, rfl, EG.nil⟩ ⟨(by repeat (first | exact Sub.nil | refine Sub.cons rfl ?_)), _, (by repeat (first | exact TakeL.nil | (apply TakeL.cons; · repeat (first | exact Take1.head | apply Take1.tail))))⟩ ?_
        rintro ⟨i, es⟩ ⟨hi, hp, hE⟩
        dsimp only [List.cons_append, List.nil_append]
        dsimp only at hi hp hE
        refine WC.seq ?_
        refine WC.region ?_
        refine WL.y (Yl.lss rfl rfl) rfl ?_ -- t109
        refine WL.nil ?_
        refine WC.seq ?_
        refine WC.condD rfl (fun g109 => ?_) (fun g109 => ?_)
        · refine WC.skip ?_
          refine WC.seq ?_
          refine WC.block ?_
          refine WC.seq ?_
          refine WC.region ?_
          refine WL.y (Yl.move rfl) rfl ?_ -- t110
          refine WL.y (Yl.assign rfl) rfl ?_ -- t20
          refine WL.nil ?_
          have hil : i < y.length := by omega
          obtain ⟨k, hk⟩ : ∃ k, y[i]? = some k := ⟨_, List.getElem?_eq_getElem hil⟩
          refine WC.drawAny (Hs := [rdR (.slice ay y.length cy) 32 y.length (vcs kyV y)]) mixed (by kernel_rfl) ⟨_, (by repeat (first | exact TakeL.nil | (apply TakeL.cons; · repeat (first | exact Take1.head | apply Take1.tail))))⟩ ?_
          refine WD.take 0 rfl (by kernel_rfl) (by kernel_rfl) (by kernel_rfl) rfl rfl (Yl.move rfl) rfl ?_ -- t111
          refine WD.take 1 rfl (by kernel_rfl) (by kernel_rfl) (by kernel_rfl) rfl rfl (Yl.move rfl) rfl ?_ -- t112
          refine WD.take 2 rfl (by kernel_rfl) (by kernel_rfl) (by kernel_rfl) rfl rfl (Yl.move rfl) rfl ?_ -- t113
          refine WD.take 3 rfl (by kernel_rfl) (by kernel_rfl) (by kernel_rfl) rfl rfl (Yl.conv un3 un5 rfl (show IntKind.u8.wrap (i : Int) = (i : Int) by rw [IntKind.wrap_u8]; omega)) rfl ?_ -- t114
          refine WD.take 5 rfl (by kernel_rfl) (by kernel_rfl) (by kernel_rfl) rfl rfl (Yl.move rfl) rfl ?_ -- t116
          refine WD.take 6 rfl (by kernel_rfl) (by kernel_rfl) (by kernel_rfl) rfl rfl (Yl.move rfl) rfl ?_ -- t117
          refine WD.take 7 rfl (by kernel_rfl) (by kernel_rfl) (by kernel_rfl) rfl rfl (Yl.index un22 sz30 rfl rfl (Reads.of (r := rdR (.slice ay y.length cy) 32 y.length (vcs kyV y)) RdOf.rd' (by repeat (first | exact Take1.head | apply Take1.tail))) rfl (by omega)) rfl ?_ -- t118
          refine WD.take 8 rfl (by kernel_rfl) (by kernel_rfl) (by kernel_rfl) rfl rfl (Yl.loadV (j := i) (u := k) vtK (fun _ _ => trivial) rfl (Reads.of (r := rdR (.slice ay y.length cy) 32 y.length (vcs kyV y)) RdOf.rd' (by repeat (first | exact Take1.head | apply Take1.tail))) rfl hk) rfl ?_
          refine WD.one 4 (by kernel_rfl) ?_
          refine WO.callC (xs := [.tmp 112, .tmp 114]) (cap := []) rfl .no rfl rfl en15 (by repeat (first | exact TakeL.nil | (apply TakeL.cons; · repeat (first | exact Take1.head | apply Take1.tail)))) (fun w hw => dev_any b (i : Int) w hw.left.here) rfl (fun _ => ⟨_, (by repeat (first | exact TakeL.nil | (apply TakeL.cons; · repeat (first | exact Take1.head | apply Take1.tail))))⟩) ?_ -- t115 hailer/hailerlaw37.dev
          rintro ⟨⟩ -
          refine WD.one 9 (by kernel_rfl) ?_
          refine WO.callC (xs := [.tmp 111, .tmp 115, .tmp 119]) (cap := []) rfl .no rfl rfl en14 (by repeat (first | exact TakeL.nil | (apply TakeL.cons; · repeat (first | exact Take1.head | apply Take1.tail)))) (fun w hw => learn_at pb pao pcp pmb a (setK x) es hE b hb i (by omega) k (i : Int) rfl (by unfold mayF; rw [if_neg (by omega)]) w hw.left.here) rfl (fun _ => ⟨_, (by repeat (first | exact TakeL.nil | (apply TakeL.cons; · repeat (first | exact Take1.head | apply Take1.tail))))⟩) ?_ -- t120 (*hailer/trust.Book).Learn
          rintro es2 ⟨hp2, hE2⟩
          rw [hp, lrn_next hy4 hk] at hp2
          refine WD.done (by kernel_rfl) ?_
          refine WC.region ?_
          refine WL.y (Yl.add rfl rfl (IntWalk.i64_in _ (by omega))) rfl ?_ -- t121
          refine WL.y (Yl.move rfl) rfl ?_ -- t108
          refine WL.nil ?_
          exact ⟨rfl, (i + 1, es2), ⟨by dsimp only; omega, hp2, hE2⟩, by dsimp only; omega, (by repeat (first | exact Sub.nil | refine Sub.cons rfl ?_)), _, (by repeat (first | exact TakeL.nil | (apply TakeL.cons; · repeat (first | exact Take1.head | apply Take1.tail))))⟩
        · refine WC.exit ?_
          refine WC.seq ?_
          refine WC.seq ?_
          have hil : i = y.length := by omega
          subst hil
          rw [lrn_all hy1] at hp
          refine WC.region ?_
          refine WL.y (Yl.move rfl) rfl ?_ -- t122
          refine WL.y (Yl.len un22 rfl) rfl ?_ -- t123
          refine WL.y (Yl.sub rfl rfl (IntWalk.i64_in _ (by omega))) rfl ?_ -- t124
          refine WL.say (t := 124) (v' := .int .i64 ((x.length : Int) - 1 - ((0 : Nat) : Int))) rfl (by (refine congrArg _ ?_; omega)) ?_
          refine WL.y (Yl.assign rfl) rfl ?_ -- t21
          refine WL.nil ?_
          refine WC.block ?_
          refine WC.loop (α := Nat × Es) (fun p => [(0, .int .u8 a), (1, .int .u8 b), (2, .slice ax x.length cx), (3, .slice ay y.length cy), (5, .int .u8 (at0 : Int)), (10, .pointer (some ⟨b10, 0, none⟩)), (16, .pointer (some ⟨pb, 0, none⟩)), (18, .pointer (some ⟨qb, 0, none⟩)), (21, .int .i64 ((x.length : Int) - 1 - (p.1 : Int)))]) (fun p => bkL qb qao qcp qmb b (setK y) p.2 ++ (bkL pb pao pcp pmb a (setK x) es ++ [blkR b10 30 o.cells, rdR (.slice ax x.length cx) 32 x.length (vcs kyV x), rdR (.slice ay y.length cy) 32 y.length (vcs kyV y), rdR mxV 1 1 [.int .i64 m]])) (fun p => p.1 ≤ x.length ∧ pj p.2 = lrn a x.reverse p.1 ∧ EG p.2) (fun p => x.length - p.1) (0, []) ⟨Nat.zero_le _, rfl, EG.nil⟩ ⟨(by repeat (first | exact Sub.nil | refine Sub.cons rfl ?_)), _, (by repeat (first | exact TakeL.nil | (apply TakeL.cons; · repeat (first | exact Take1.head | apply Take1.tail))))⟩ ?_
          rintro ⟨n, eq⟩ ⟨hn, hpq, hEq⟩
          dsimp only [List.cons_append, List.nil_append]
          dsimp only at hn hpq hEq
          refine WC.seq ?_
          refine WC.seq ?_
          refine WC.region ?_
          refine WL.y (Yl.move rfl) rfl ?_ -- t125
          refine WL.y (Yl.geq rfl rfl) rfl ?_ -- t126
          refine WL.nil ?_
          refine WC.condD rfl (fun g126 => ?_) (fun g126 => ?_)
          · refine WC.skip ?_
            refine WC.seq ?_
            refine WC.block ?_
            have hnl : n < x.length := by omega
            obtain ⟨k, hk⟩ : ∃ k, x.reverse[n]? = some k := ⟨_, List.getElem?_eq_getElem (by rw [List.length_reverse]; exact hnl)⟩
            have hk2 : x[x.length - 1 - n]? = some k := by rw [← List.getElem?_reverse hnl]; exact hk
            refine WC.drawAny (Hs := [rdR (.slice ax x.length cx) 32 x.length (vcs kyV x)]) mixed (by kernel_rfl) ⟨_, (by repeat (first | exact TakeL.nil | (apply TakeL.cons; · repeat (first | exact Take1.head | apply Take1.tail))))⟩ ?_
            refine WD.take 0 rfl (by kernel_rfl) (by kernel_rfl) (by kernel_rfl) rfl rfl (Yl.move rfl) rfl ?_ -- t129
            refine WD.take 1 rfl (by kernel_rfl) (by kernel_rfl) (by kernel_rfl) rfl rfl (Yl.move rfl) rfl ?_ -- t130
            refine WD.take 2 rfl (by kernel_rfl) (by kernel_rfl) (by kernel_rfl) rfl rfl (Yl.move rfl) rfl ?_ -- t131
            refine WD.take 3 rfl (by kernel_rfl) (by kernel_rfl) (by kernel_rfl) rfl rfl (Yl.len un22 rfl) rfl ?_ -- t132
            refine WD.take 4 rfl (by kernel_rfl) (by kernel_rfl) (by kernel_rfl) rfl rfl (Yl.sub rfl rfl (IntWalk.i64_in _ (by omega))) rfl ?_ -- t133
            refine WD.take 5 rfl (by kernel_rfl) (by kernel_rfl) (by kernel_rfl) rfl rfl (Yl.move rfl) rfl ?_ -- t134
            refine WD.take 6 rfl (by kernel_rfl) (by kernel_rfl) (by kernel_rfl) rfl rfl (Yl.sub rfl rfl (IntWalk.i64_in _ (by omega))) rfl ?_ -- t135
            refine WD.say (t := 135) (v' := .int .i64 (n : Int)) rfl (by (refine congrArg _ ?_; omega)) ?_
            refine WD.take 7 rfl (by kernel_rfl) (by kernel_rfl) (by kernel_rfl) rfl rfl (Yl.conv un3 un5 rfl (show IntKind.u8.wrap (n : Int) = (n : Int) by rw [IntKind.wrap_u8]; omega)) rfl ?_ -- t136
            refine WD.take 9 rfl (by kernel_rfl) (by kernel_rfl) (by kernel_rfl) rfl rfl (Yl.move rfl) rfl ?_ -- t138
            refine WD.take 10 rfl (by kernel_rfl) (by kernel_rfl) (by kernel_rfl) rfl rfl (Yl.move rfl) rfl ?_ -- t139
            refine WD.say (t := 139) (v' := .int .i64 ((x.length - 1 - n : Nat) : Int)) rfl (by (refine congrArg _ ?_; omega)) ?_
            refine WD.take 11 rfl (by kernel_rfl) (by kernel_rfl) (by kernel_rfl) rfl rfl (Yl.index un22 sz30 rfl rfl (Reads.of (r := rdR (.slice ax x.length cx) 32 x.length (vcs kyV x)) RdOf.rd' (by repeat (first | exact Take1.head | apply Take1.tail))) rfl (by omega)) rfl ?_ -- t140
            refine WD.take 12 rfl (by kernel_rfl) (by kernel_rfl) (by kernel_rfl) rfl rfl (Yl.loadV (j := x.length - 1 - n) (u := k) vtK (fun _ _ => trivial) rfl (Reads.of (r := rdR (.slice ax x.length cx) 32 x.length (vcs kyV x)) RdOf.rd' (by repeat (first | exact Take1.head | apply Take1.tail))) rfl hk2) rfl ?_
            refine WD.one 8 (by kernel_rfl) ?_
            refine WO.callC (xs := [.tmp 130, .tmp 136]) (cap := []) rfl .no rfl rfl en15 (by repeat (first | exact TakeL.nil | (apply TakeL.cons; · repeat (first | exact Take1.head | apply Take1.tail)))) (fun w hw => dev_any a (n : Int) w hw.left.here) rfl (fun _ => ⟨_, (by repeat (first | exact TakeL.nil | (apply TakeL.cons; · repeat (first | exact Take1.head | apply Take1.tail))))⟩) ?_ -- t137 hailer/hailerlaw37.dev
            rintro ⟨⟩ -
            refine WD.one 13 (by kernel_rfl) ?_
            refine WO.callC (xs := [.tmp 129, .tmp 137, .tmp 141]) (cap := []) rfl .no rfl rfl en14 (by repeat (first | exact TakeL.nil | (apply TakeL.cons; · repeat (first | exact Take1.head | apply Take1.tail)))) (fun w hw => learn_at qb qao qcp qmb b (setK y) eq hEq a ha n (by omega) k (n : Int) rfl (by unfold mayF; rw [if_neg (by omega)]) w hw.left.here) rfl (fun _ => ⟨_, (by repeat (first | exact TakeL.nil | (apply TakeL.cons; · repeat (first | exact Take1.head | apply Take1.tail))))⟩) ?_ -- t142 (*hailer/trust.Book).Learn
            rintro es2 ⟨hp2, hE2⟩
            rw [hpq, lrn_next (by rw [List.length_reverse]; exact hx4) hk] at hp2
            refine WD.done (by kernel_rfl) ?_
            refine WC.region ?_
            refine WL.y (Yl.move rfl) rfl ?_ -- t127
            refine WL.y (Yl.sub rfl rfl (IntWalk.i64_in _ (by omega))) rfl ?_ -- t128
            refine WL.say (t := 128) (v' := .int .i64 ((x.length : Int) - 1 - ((n + 1 : Nat) : Int))) rfl (by (refine congrArg _ ?_; omega)) ?_
            refine WL.y (Yl.assign rfl) rfl ?_ -- t21
            refine WL.nil ?_
            exact ⟨rfl, (n + 1, es2), ⟨by dsimp only; omega, hp2, hE2⟩, by dsimp only; omega, (by repeat (first | exact Sub.nil | refine Sub.cons rfl ?_)), _, (by repeat (first | exact TakeL.nil | (apply TakeL.cons; · repeat (first | exact Take1.head | apply Take1.tail))))⟩
          · refine WC.exit ?_
            refine WC.seq ?_
            have hnl : n = x.reverse.length := by rw [List.length_reverse]; omega
            subst hnl
            have hrl : 1 ≤ x.reverse.length := by rw [List.length_reverse]; exact hx1
            rw [lrn_all hrl] at hpq
            obtain ⟨N, hN⟩ : ∃ N, numT a (setK x) b y = N := ⟨_, rfl⟩
            have hN2 : numT b (setK y) a x.reverse = N := by rw [← meets a b x y hx1 hy1, hN]
            have hNd : Dig N := by rw [← hN, numT_ne hy1]; exact numF_dig (digF_dig _ _) (digF_dig _ _)
            have hNl : N.length = 60 := by rw [← hN, numT_ne hy1, numF_len, digF_len, digF_len]
            have hNb := hNd.bytes
            have hbare := bare_of hNd.noB
            have hsb := spaced_bare hNd.noB
            have hsl := spacedF_len N
            have hy0 : ¬ y.length = 0 := by omega
            have hr0 : ¬ x.reverse.length = 0 := by omega
            refine WC.region ?_
            refine WL.y (Yl.move rfl) rfl ?_ -- t144
            refine WL.y (Yl.move rfl) rfl ?_ -- t145
            refine WL.callC (xs := [.tmp 144, .tmp 145]) (cap := []) rfl rfl en16 (by repeat (first | exact TakeL.nil | (apply TakeL.cons; · repeat (first | exact Take1.head | apply Take1.tail)))) (fun w hw => numB_any pb pao pcp pmb a (setK x) hsx es hE b hb w hw.left.here) rfl ?_ -- t146 (*hailer/trust.Book).Number
            rintro ⟨⟩ -
            rw [hp, kysAt_one, kys_ctP, hN, show numE y = 0 by unfold numE; rw [if_neg hy0]]
            dsimp only [List.cons_append, List.nil_append]
            refine WL.y (Yl.move rfl) rfl ?_ -- t143
            refine WL.y (Yl.extract rfl rfl) rfl ?_ -- t147
            refine WL.y (Yl.extract rfl rfl) rfl ?_ -- t148
            refine WL.y (Yl.assign rfl) rfl ?_ -- t22
            refine WL.y (Yl.assign rfl) rfl ?_ -- t17
            refine WL.nil ?_
            refine WC.seq ?_
            refine WC.region ?_
            refine WL.y (Yl.move rfl) rfl ?_ -- t150
            refine WL.y (Yl.move rfl) rfl ?_ -- t151
            refine WL.callC (xs := [.tmp 150, .tmp 151]) (cap := []) rfl rfl en16 (by repeat (first | exact TakeL.nil | (apply TakeL.cons; · repeat (first | exact Take1.head | apply Take1.tail)))) (fun w hw => numB_any qb qao qcp qmb b (setK y) hsy eq hEq a ha w hw.left.here) rfl ?_ -- t152 (*hailer/trust.Book).Number
            rintro ⟨⟩ -
            rw [hpq, kysAt_one, kys_ctP, hN2, show numE x.reverse = 0 by unfold numE; rw [if_neg hr0]]
            dsimp only [List.cons_append, List.nil_append]
            refine WL.y (Yl.move rfl) rfl ?_ -- t149
            refine WL.y (Yl.extract rfl rfl) rfl ?_ -- t153
            refine WL.y (Yl.extract rfl rfl) rfl ?_ -- t154
            refine WL.y (Yl.assign rfl) rfl ?_ -- t23
            refine WL.y (Yl.assign rfl) rfl ?_ -- t19
            refine WL.nil ?_
            refine WC.seq ?_
            refine WC.seq ?_
            refine WC.region ?_
            refine WL.y (Yl.move rfl) rfl ?_ -- t155
            refine WL.y (Yl.neq rfl rfl) rfl ?_ -- t156
            refine WL.y (Yl.move rfl) rfl ?_ -- t157
            refine WL.know (t := 157) (b' := false) rfl (by first | rfl | (simp; done) | (simp; omega)) ?_
            refine WL.on rfl rfl ?_
            refine WL.y (Yl.move rfl) rfl ?_ -- t158
            refine WL.on rfl rfl ?_
            refine WL.y (Yl.neq rfl rfl) rfl ?_ -- t159
            refine WL.y (Yl.pickF rfl rfl) rfl ?_ -- t160
            refine WL.y (Yl.move rfl) rfl ?_ -- t161
            refine WL.know (t := 161) (b' := false) rfl (by first | rfl | (simp; done) | (simp; omega)) ?_
            refine WL.on rfl rfl ?_
            refine WL.y (Yl.move rfl) rfl ?_ -- t162
            refine WL.on rfl rfl ?_
            refine WL.y (Yl.move rfl) rfl ?_ -- t163
            refine WL.on rfl rfl ?_
            refine WL.y (Yl.sNeT hNb hNb rfl rfl) rfl ?_
            refine WL.y (Yl.pickF rfl rfl) rfl ?_ -- t165
            refine WL.y (Yl.move rfl) rfl ?_ -- t166
            refine WL.know (t := 166) (b' := false) rfl (by simp) ?_
            refine WL.on rfl rfl ?_
            refine WL.y (Yl.move rfl) rfl ?_ -- t167
            refine WL.on rfl rfl ?_
            refine WL.y (Yl.move rfl) rfl ?_ -- t168
            refine WL.on rfl rfl ?_
            refine WL.y (Yl.move rfl) rfl ?_ -- t169
            refine WL.on rfl rfl ?_
            refine WL.callC (xs := [.tmp 167, .tmp 168, .tmp 169]) (cap := []) rfl rfl en17 (by repeat (first | exact TakeL.nil | (apply TakeL.cons; · repeat (first | exact Take1.head | apply Take1.tail)))) (fun w hw => verify_any m pb pao pcp pmb a (setK x) hsx es hE b hb N hNb (by omega) w (hw.src (r := rdR mxV 1 1 [.int .i64 m]) RdOf.rd' (by repeat (first | exact Take1.head | apply Take1.tail))) hw.left.here) rfl ?_ -- t170 (*hailer/trust.Book).Verify
            rintro es2 ⟨hp2, hE2⟩
            rw [hp, kysAt_one, kys_ctP, hN] at hp2 ⊢
            rw [show verE y N N = 0 by unfold verE; rw [if_neg hy0, if_pos hbare]]
            rw [show verC [(b, ctP y y.length)] b N N = [(b, { ctP y y.length with st := 2 })] by unfold verC; rw [kysAt_one, kys_ctP, if_neg hy0, if_pos hbare, setSt_one]] at hp2
            dsimp only [List.cons_append, List.nil_append]
            refine WL.on rfl rfl ?_
            refine WL.y (Yl.neq rfl rfl) rfl ?_ -- t171
            refine WL.y (Yl.pickF rfl rfl) rfl ?_ -- t172
            refine WL.y (Yl.move rfl) rfl ?_ -- t173
            refine WL.know (t := 173) (b' := false) rfl (by first | rfl | (simp; done) | (simp; omega)) ?_
            refine WL.on rfl rfl ?_
            refine WL.y (Yl.move rfl) rfl ?_ -- t174
            refine WL.on rfl rfl ?_
            refine WL.y (Yl.move rfl) rfl ?_ -- t175
            refine WL.on rfl rfl ?_
            refine WL.y (Yl.move rfl) rfl ?_ -- t176
            refine WL.on rfl rfl ?_
            refine WL.callC (xs := [.tmp 176]) (cap := []) rfl rfl en11 (by repeat (first | exact TakeL.nil | (apply TakeL.cons; · repeat (first | exact Take1.head | apply Take1.tail)))) (fun w hw => spaced_any N hNb (by omega) w hw.left.here) rfl ?_ -- t177 hailer/trust.Spaced
            rintro ⟨⟩ -
            refine WL.on rfl rfl ?_
            refine WL.callC (xs := [.tmp 174, .tmp 175, .tmp 177]) (cap := []) rfl rfl en17 (by repeat (first | exact TakeL.nil | (apply TakeL.cons; · repeat (first | exact Take1.head | apply Take1.tail)))) (fun w hw => verify_any m qb qao qcp qmb b (setK y) hsy eq hEq a ha (spacedF N) (spacedF_by hNb) (by omega) w (hw.src (r := rdR mxV 1 1 [.int .i64 m]) RdOf.rd' (by repeat (first | exact Take1.head | apply Take1.tail))) hw.left.here) rfl ?_ -- t178 (*hailer/trust.Book).Verify
            rintro eq2 ⟨hpq2, hEq2⟩
            rw [hpq, kysAt_one, kys_ctP, hN2] at hpq2 ⊢
            rw [show verE x.reverse (spacedF N) N = 0 by unfold verE; rw [if_neg hr0, if_pos hsb]]
            rw [show verC [(a, ctP x.reverse x.reverse.length)] a (spacedF N) N = [(a, { ctP x.reverse x.reverse.length with st := 2 })] by unfold verC; rw [kysAt_one, kys_ctP, if_neg hr0, if_pos hsb, setSt_one]] at hpq2
            dsimp only [List.cons_append, List.nil_append]
            refine WL.on rfl rfl ?_
            refine WL.y (Yl.neq rfl rfl) rfl ?_ -- t179
            refine WL.y (Yl.pickF rfl rfl) rfl ?_ -- t180
            refine WL.know (t := 180) (b' := false) rfl (by first | rfl | (simp; done) | (simp; omega)) ?_
            refine WL.nil ?_
            refine WC.condF rfl (by first | rfl | (simp; done) | (simp; omega)) ?_
            refine WC.skip ?_
            refine WC.seq ?_
            have hjl : at0 % y.length < y.length := Nat.mod_lt _ (by omega)
            obtain ⟨c3, hc3, hs3, hk3⟩ := other_key (b := b) hy4 hoy hjl
            refine WC.drawAny (Hs := [blkR b10 30 o.cells]) mixed (by kernel_rfl) ⟨_, (by repeat (first | exact TakeL.nil | (apply TakeL.cons; · repeat (first | exact Take1.head | apply Take1.tail))))⟩ ?_
            refine WD.take 0 rfl (by kernel_rfl) (by kernel_rfl) (by kernel_rfl) rfl rfl (Yl.move rfl) rfl ?_ -- t181
            refine WD.take 1 rfl (by kernel_rfl) (by kernel_rfl) (by kernel_rfl) rfl rfl (Yl.move rfl) rfl ?_ -- t182
            refine WD.take 2 rfl (by kernel_rfl) (by kernel_rfl) (by kernel_rfl) rfl rfl (Yl.move rfl) rfl ?_ -- t183
            refine WD.take 3 rfl (by kernel_rfl) (by kernel_rfl) (by kernel_rfl) rfl rfl (Yl.move rfl) rfl ?_ -- t184
            refine WD.take 4 rfl (by kernel_rfl) (by kernel_rfl) (by kernel_rfl) rfl rfl (Yl.len un22 rfl) rfl ?_ -- t185
            refine WD.take 5 rfl (by kernel_rfl) (by kernel_rfl) (by kernel_rfl) rfl rfl (Yl.conv un3 un5 rfl (show IntKind.u8.wrap (y.length : Int) = (y.length : Int) by rw [IntKind.wrap_u8]; omega)) rfl ?_ -- t186
            refine WD.take 6 rfl (by kernel_rfl) (by kernel_rfl) (by kernel_rfl) rfl rfl (Yl.rem (r := ((at0 % y.length : Nat) : Int)) rfl rfl (by omega) (by rw [Int.tmod_eq_emod_of_nonneg (by omega)]; omega)) rfl ?_
            refine WD.take 8 rfl (by kernel_rfl) (by kernel_rfl) (by kernel_rfl) rfl rfl (Yl.loadN (T := 30) (cs := o.cells) (cs' := o.cells) ag30 rfl (by repeat (first | exact Take1.head | apply Take1.tail)) (Nat.ble_eq_true_of_le (by rw [o.clen]; omega)) (by rw [List.drop_zero, List.take_of_length_le (by rw [o.clen]; omega)])) rfl ?_
            refine WD.one 7 (by kernel_rfl) ?_
            refine WO.callC (xs := [.tmp 182, .tmp 187]) (cap := []) rfl .no rfl rfl en15 (by repeat (first | exact TakeL.nil | (apply TakeL.cons; · repeat (first | exact Take1.head | apply Take1.tail)))) (fun w hw => dev_any b ((at0 % y.length : Nat) : Int) w hw.left.here) rfl (fun _ => ⟨_, (by repeat (first | exact TakeL.nil | (apply TakeL.cons; · repeat (first | exact Take1.head | apply Take1.tail))))⟩) ?_ -- t188 hailer/hailerlaw37.dev
            rintro ⟨⟩ -
            refine WD.one 9 (by kernel_rfl) ?_
            refine WO.callC (xs := [.tmp 181, .tmp 188, .tmp 189]) (cap := []) rfl .no rfl rfl en14 (by repeat (first | exact TakeL.nil | (apply TakeL.cons; · repeat (first | exact Take1.head | apply Take1.tail)))) (fun w hw => learn_at pb pao pcp pmb a (setK x) es2 hE2 b hb (at0 % y.length) (by omega) o ((at0 % y.length : Nat) : Int) rfl (by unfold mayF; rw [if_neg (by omega)]) w hw.left.here) rfl (fun _ => ⟨_, (by repeat (first | exact TakeL.nil | (apply TakeL.cons; · repeat (first | exact Take1.head | apply Take1.tail))))⟩) ?_ -- t190 (*hailer/trust.Book).Learn
            rintro es3 ⟨hp3, hE3⟩
            rw [hp2, hc3] at hp3
            refine WD.done (by kernel_rfl) ?_
            refine WC.seq ?_
            obtain ⟨N4, hN4⟩ : ∃ N4, numT a (setK x) b c3.kys = N4 := ⟨_, rfl⟩
            have hc0 : ¬ c3.kys.length = 0 := by omega
            have hN4b : Bytes N4 := by rw [← hN4]; exact numT_by _ _ _ _
            refine WC.region ?_
            refine WL.y (Yl.move rfl) rfl ?_ -- t192
            refine WL.y (Yl.move rfl) rfl ?_ -- t193
            refine WL.callC (xs := [.tmp 192, .tmp 193]) (cap := []) rfl rfl en16 (by repeat (first | exact TakeL.nil | (apply TakeL.cons; · repeat (first | exact Take1.head | apply Take1.tail)))) (fun w hw => numB_any pb pao pcp pmb a (setK x) hsx es3 hE3 b hb w hw.left.here) rfl ?_ -- t194 (*hailer/trust.Book).Number
            rintro ⟨⟩ -
            rw [hp3, kysAt_one, hN4]
            dsimp only [List.cons_append, List.nil_append]
            refine WL.y (Yl.move rfl) rfl ?_ -- t191
            refine WL.y (Yl.extract rfl rfl) rfl ?_ -- t195
            refine WL.y (Yl.extract rfl rfl) rfl ?_ -- t196
            refine WL.y (Yl.assign rfl) rfl ?_ -- t24
            refine WL.y (Yl.assign rfl) rfl ?_ -- t25
            refine WL.nil ?_
            refine WC.seq ?_
            refine WC.seq ?_
            refine WC.region ?_
            refine WL.y (Yl.move rfl) rfl ?_ -- t197
            refine WL.y (Yl.move rfl) rfl ?_ -- t198
            refine WL.callC (xs := [.tmp 197, .tmp 198]) (cap := []) rfl rfl en18 (by repeat (first | exact TakeL.nil | (apply TakeL.cons; · repeat (first | exact Take1.head | apply Take1.tail)))) (fun w hw => state_any pb pao pcp pmb a (setK x) es3 hE3 b hb w hw.left.here) rfl ?_ -- t199 (*hailer/trust.Book).State
            rintro ⟨⟩ -
            rw [hp3, stOf_one, hs3]
            dsimp only [List.cons_append, List.nil_append]
            refine WL.y (Yl.neq rfl rfl) rfl ?_ -- t200
            refine WL.y (Yl.move rfl) rfl ?_ -- t201
            refine WL.know (t := 201) (b' := false) rfl (by first | rfl | (simp; done) | (simp; omega)) ?_
            refine WL.on rfl rfl ?_
            refine WL.y (Yl.move rfl) rfl ?_ -- t202
            refine WL.on rfl rfl ?_
            refine WL.y (Yl.move rfl) rfl ?_ -- t203
            refine WL.on rfl rfl ?_
            refine WL.callC (xs := [.tmp 202, .tmp 203]) (cap := []) rfl rfl en18 (by repeat (first | exact TakeL.nil | (apply TakeL.cons; · repeat (first | exact Take1.head | apply Take1.tail)))) (fun w hw => state_any qb qao qcp qmb b (setK y) eq2 hEq2 a ha w hw.left.here) rfl ?_ -- t204 (*hailer/trust.Book).State
            rintro ⟨⟩ -
            rw [hpq2, stOf_one]
            dsimp only [List.cons_append, List.nil_append]
            refine WL.on rfl rfl ?_
            refine WL.y (Yl.neq rfl rfl) rfl ?_ -- t205
            refine WL.y (Yl.pickF rfl rfl) rfl ?_ -- t206
            refine WL.know (t := 206) (b' := false) rfl (by first | rfl | (simp; done) | (simp; omega)) ?_
            refine WL.nil ?_
            refine WC.condF rfl (by first | rfl | (simp; done) | (simp; omega)) ?_
            refine WC.skip ?_
            refine WC.seq ?_
            refine WC.region ?_
            refine WL.y (Yl.move rfl) rfl ?_ -- t207
            refine WL.y (Yl.move rfl) rfl ?_ -- t208
            refine WL.y (Yl.sEqT hN4b hNb rfl rfl) rfl ?_
            refine WL.y (Yl.move rfl) rfl ?_ -- t210
            refine WL.both (t := 210) rfl (fun g210 => ?_) (fun g210 => ?_)
            · refine WL.off rfl rfl rfl rfl ?_ -- t211
              refine WL.off rfl rfl rfl rfl ?_ -- t212
              refine WL.off rfl rfl rfl rfl ?_ -- t213
              refine WL.off rfl rfl rfl rfl ?_ -- t214
              refine WL.off rfl rfl rfl rfl ?_ -- t215
              refine WL.off rfl rfl rfl rfl ?_ -- t216
              refine WL.offU rfl rfl rfl ?_ -- t217
              refine WL.offU rfl rfl rfl ?_ -- t218
              refine WL.offU rfl rfl rfl ?_ -- t219
              refine WL.offU rfl rfl rfl ?_ -- t220
              refine WL.off rfl rfl rfl rfl ?_ -- t221
              refine WL.y (Yl.pickT rfl rfl) rfl ?_ -- t222
              refine WL.know (t := 222) (b' := true) rfl (by first | rfl | (simp; done) | (simp; omega)) ?_
              refine WL.y (Yl.assign rfl) rfl ?_ -- t12
              refine WL.nil ?_
              refine WC.ret ?_
              repeat (first | (with_reducible refine peelT ?_) | (with_reducible refine peelB ?_) | (with_reducible refine peelTX ?_) | (with_reducible refine peelBX ?_) | (with_reducible refine peelBN ?_) | (with_reducible refine peelBO rfl ?_))
              exact ret1 (.inr rfl) Tryz.results4 rfl fun w' h => ⟨(), trivial, rfl, h.sub (by repeat (first | exact TakeL.nil | (apply TakeL.cons; · repeat (first | exact Take1.head | apply Take1.tail))))⟩
            · refine WL.on rfl rfl ?_
              refine WL.y (Yl.move rfl) rfl ?_ -- t211
              refine WL.on rfl rfl ?_
              refine WL.y (Yl.move rfl) rfl ?_ -- t212
              refine WL.on rfl rfl ?_
              refine WL.y (Yl.move rfl) rfl ?_ -- t213
              refine WL.on rfl rfl ?_
              refine WL.callC (xs := [.tmp 211, .tmp 212, .tmp 213]) (cap := []) rfl rfl en17 (by repeat (first | exact TakeL.nil | (apply TakeL.cons; · repeat (first | exact Take1.head | apply Take1.tail)))) (fun w hw => verify_any m pb pao pcp pmb a (setK x) hsx es3 hE3 b hb N hNb (by omega) w (hw.src (r := rdR mxV 1 1 [.int .i64 m]) RdOf.rd' (by repeat (first | exact Take1.head | apply Take1.tail))) hw.left.here) rfl ?_ -- t214 (*hailer/trust.Book).Verify
              rintro es4 ⟨hp4, hE4⟩
              have hne : ¬ bareF N = N4 := by rw [hbare]; intro e; exact of_decide_eq_false g210 e.symm
              rw [hp3, kysAt_one, hN4] at hp4 ⊢
              rw [show verE c3.kys N N4 = 6 by unfold verE; rw [if_neg hc0, if_neg hne]]
              rw [show verC [(b, c3)] b N N4 = [(b, c3)] by unfold verC; rw [kysAt_one, if_neg hc0, if_neg hne]] at hp4
              dsimp only [List.cons_append, List.nil_append]
              refine WL.on rfl rfl ?_
              refine WL.y (Yl.eql rfl rfl) rfl ?_ -- t215
              refine WL.on rfl rfl ?_
              refine WL.y (Yl.move rfl) rfl ?_ -- t216
              refine WL.know (t := 216) (b' := true) rfl (by first | rfl | (simp; done) | (simp; omega)) ?_
              refine WL.on rfl rfl ?_
              refine WL.y (Yl.move rfl) rfl ?_ -- t217
              refine WL.on rfl rfl ?_
              refine WL.y (Yl.move rfl) rfl ?_ -- t218
              refine WL.on rfl rfl ?_
              refine WL.callC (xs := [.tmp 217, .tmp 218]) (cap := []) rfl rfl en18 (by repeat (first | exact TakeL.nil | (apply TakeL.cons; · repeat (first | exact Take1.head | apply Take1.tail)))) (fun w hw => state_any pb pao pcp pmb a (setK x) es4 hE4 b hb w hw.left.here) rfl ?_ -- t219 (*hailer/trust.Book).State
              rintro ⟨⟩ -
              rw [hp4, stOf_one, hs3]
              dsimp only [List.cons_append, List.nil_append]
              refine WL.on rfl rfl ?_
              refine WL.y (Yl.eql rfl rfl) rfl ?_ -- t220
              refine WL.on rfl rfl ?_
              refine WL.y (Yl.pickT rfl rfl) rfl ?_ -- t221
              refine WL.y (Yl.pickF rfl rfl) rfl ?_ -- t222
              refine WL.know (t := 222) (b' := true) rfl (by first | rfl | (simp; done) | (simp; omega)) ?_
              refine WL.y (Yl.assign rfl) rfl ?_ -- t12
              refine WL.nil ?_
              refine WC.ret ?_
              repeat (first | (with_reducible refine peelT ?_) | (with_reducible refine peelB ?_) | (with_reducible refine peelTX ?_) | (with_reducible refine peelBX ?_) | (with_reducible refine peelBN ?_) | (with_reducible refine peelBO rfl ?_))
              exact ret1 (.inr rfl) Tryz.results4 rfl fun w' h => ⟨(), trivial, rfl, h.sub (by repeat (first | exact TakeL.nil | (apply TakeL.cons; · repeat (first | exact Take1.head | apply Take1.tail))))⟩
end Go.Proofs.YtfobhdmhjjafcaaGreatDoorRR
