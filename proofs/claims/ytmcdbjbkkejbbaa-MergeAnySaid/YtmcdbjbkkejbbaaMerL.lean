/- MergeAny: the law. -/
import Derived.Test.YtmcdbjbkkejbbaaMerK
import Derived.Test.YtmcdbjbkkejbbaaMerQ
namespace Go.Proofs.Ytmcdbjbkkejbbaa
open Go Go.RowKit
theorem best_book {n m xs ys : List Rc} (h : Best n (xs ++ m)) (k : Best m ys) : Best n (xs ++ ys) := by
  refine ⟨h.bk, fun r hr => ?_, fun s hs hms => ?_⟩
  · rcases List.mem_append.1 (h.sub r hr) with h1 | h1
    · exact List.mem_append_left _ h1
    · exact List.mem_append_right _ (k.sub r h1)
  · rcases List.mem_append.1 hs with h1 | h1
    · exact h.top s (List.mem_append_left _ h1) hms
    · obtain ⟨r, hr, he, hle⟩ := k.top s h1 hms
      obtain ⟨q, hq, hqe, hql⟩ := h.top r (List.mem_append_right _ hr) (k.bk.bk r hr).may
      exact ⟨q, hq, hqe.trans he, lex_le_trans hql hle⟩
theorem best_of {xs : List Rc} (h : ROk xs) : Best (joinF [] xs).1 xs := by
  have := best_join (rs := xs) Best.nil h
  simpa using this
theorem digF_by (l : List Rc) : Bytes (digF l) := fun x hx => sum256_by _ x (List.mem_of_mem_take hx)
theorem any_turn {xs : List Rc} (h : ROk xs) (ks : List Int) : (joinF [] (turnF xs ks)).1 = (joinF [] xs).1 := by
  have hp := turnF_perm xs ks
  exact best_one (best_of fun r hr => h r (hp.mem_iff.2 hr)) (best_of h) fun r _ => hp.mem_iff.symm
theorem any_join {xs ys : List Rc} (hx : ROk xs) (hy : ROk ys) : (joinF (joinF [] xs).1 (joinF [] ys).1).1 = (joinF [] (xs ++ ys)).1 := by
  have h1 := best_join (best_of hx) (rs := (joinF [] ys).1) (fun r hr => ((best_of hy).bk.bk r hr).ok)
  have h2 := best_book h1 (best_of hy)
  exact best_one h2 (best_of fun r hr => by
    rcases List.mem_append.1 hr with h | h
    · exact hx r h
    · exact hy r h) fun r _ => Iff.rfl
theorem any_join' {xs ys : List Rc} (hx : ROk xs) (hy : ROk ys) : (joinF (joinF [] ys).1 (joinF [] xs).1).1 = (joinF [] (xs ++ ys)).1 := by
  rw [any_join hy hx]
  have h1 : ROk (ys ++ xs) := fun r hr => by
    rcases List.mem_append.1 hr with h | h
    · exact hy r h
    · exact hx r h
  have h2 : ROk (xs ++ ys) := fun r hr => by
    rcases List.mem_append.1 hr with h | h
    · exact hx r h
    · exact hy r h
  exact best_one (best_of h1) (best_of h2) fun r _ => by simp [or_comm]
theorem any_again {xs : List Rc} (h : ROk xs) (ks : List Int) : joinF (joinF [] xs).1 (turnF xs ks) = ((joinF [] xs).1, 0) :=
  best_again (best_of h) fun r hr => (turnF_perm xs ks).mem_iff.2 hr
theorem joinF_len (xs : List Rc) : (joinF [] xs).1.length ≤ xs.length := by simpa using (join_len xs []).1
theorem oneM22 {w : World} {T : Pm} {v u : Value} {xs ys : List Rc} (h : RdS w T v 22 xs.length (vcs rcV xs)) (k : RdS w T u 22 ys.length (vcs rcV ys)) : ∀ (i : Nat) (v' : Value) (c' : List Rc), [v, u][i]? = some v' → [xs, ys][i]? = some c' → RdS w T v' 22 c'.length (vcs rcV c') := by
  intro i v' c' h1 h2
  match i with
  | 0 =>
    simp at h1 h2
    subst h1 h2
    exact h
  | 1 =>
    simp at h1 h2
    subst h1 h2
    exact k
  | i + 2 => simp at h1
theorem h2lens {a b : Option Addr} {m n c d : Nat} (h : m ≤ 281474976710656) (k : n ≤ 281474976710656) : ∀ y ∈ [(a, m, c), (b, n, d)], y.2.1 ≤ 281474976710656 := by
  intro y hy
  simp only [List.mem_cons, List.not_mem_nil, or_false] at hy
  rcases hy with rfl | rfl <;> assumption
set_option maxRecDepth 100000 in
set_option maxHeartbeats 1000000 in
theorem any_any (v u q : Value) (xs ys : List Rc) (ks : List Int) (hx : ROk xs) (hy : ROk ys) (hk : ∀ k ∈ ks, 0 ≤ k ∧ k < 65536) (lx : xs.length ≤ 281474976710656) (ly : ys.length ≤ 281474976710656) (w : World) (hw : OK w (fpL [rdR v 22 xs.length (vcs rcV xs), rdR u 22 ys.length (vcs rcV ys), rdR q 1 ks.length (ints .u16 ks)]) [rdR v 22 xs.length (vcs rcV xs), rdR u 22 ys.length (vcs rcV ys), rdR q 1 ks.length (ints .u16 ks)] w) :
    Fn Try.prog 5 [v, u, q] [rdR v 22 xs.length (vcs rcV xs), rdR u 22 ys.length (vcs rcV ys), rdR q 1 ks.length (ints .u16 ks)] w (fun _ : Unit => True) (fun _ => .bool true) (fun _ => []) := by
  obtain ⟨al, cl, rfl, hcl, hml⟩ := (hw.get .head : Rd _ _ _ _ _).form
  obtain ⟨bl, dl, rfl, hdl, hml2⟩ := (hw.get (.tail .head) : Rd _ _ _ _ _).form
  obtain ⟨ql, kl, rfl, hkl, hml3⟩ := (hw.get (.tail (.tail .head)) : Rd _ _ _ _ _).form
  refine enterF Try.func5 rfl Try.ntmps5 rfl hw ?_
  refine WC.seq ?_
  refine WC.region ?_
  refine WL.y (Yl.assign rfl) rfl ?_ -- t6
  refine WL.nil ?_
  refine WC.seq ?_
  refine WC.seq ?_
  refine WC.region ?_
  refine WL.callC (xs := []) (cap := []) rfl rfl en6 (by repeat (first | exact TakeL.nil | (apply TakeL.cons; · repeat (first | exact Take1.head | apply Take1.tail)))) (fun w hw => known_any w hw.left.here) rfl ?_ -- t16 hailer/hailerlaw36.known
  rintro ⟨⟩ -
  refine WL.y (Yl.not rfl) rfl ?_ -- t17
  refine WL.know (t := 17) (b' := false) rfl (by first | rfl | (simp; done) | (simp; omega)) ?_
  refine WL.nil ?_
  refine WC.condF rfl (by first | rfl | (simp; done) | (simp; omega)) ?_
  refine WC.skip ?_
  refine WC.seq ?_
  refine WC.seq ?_
  refine WC.region ?_
  refine WL.y (Yl.move rfl) rfl ?_ -- t18
  refine WL.y (Yl.move rfl) rfl ?_ -- t19
  refine WL.to (To.buildSlice (vs := [.slice al xs.length cl, .slice bl ys.length dl]) un56 zs22 rfl rfl (by simp [Value.cells]) (by decide) (by decide)) rfl ?_ -- t20
  intro b20
  refine WL.callC (xs := [.tmp 20]) (cap := []) rfl rfl en7 (by repeat (first | exact TakeL.nil | (apply TakeL.cons; · repeat (first | exact Take1.head | apply Take1.tail)))) (fun w hw => heavy_any (.slice (some ⟨b20, 0, none⟩) 2 2) [(al, xs.length, cl), (bl, ys.length, dl)] (by simp) (h2lens lx ly) w (hw.src (A := []) (RdOf.blk (size := 1) (n := 2) (cs := [.slice al xs.length cl, .slice bl ys.length dl]) (Nat.le_refl _) (by unfold maxLen; omega) (by simp) rfl) (by repeat (first | exact Take1.head | apply Take1.tail))) hw.left.here) rfl ?_ -- t21 hailer/hailerlaw36.heavy
  rintro ⟨⟩ -
  refine WL.y (Yl.move rfl) rfl ?_ -- t22
  refine WL.both (t := 22) rfl (fun g22 => ?_) (fun g22 => ?_)
  · refine WL.off rfl rfl rfl rfl ?_ -- t23
    refine WL.off rfl rfl rfl rfl ?_ -- t24
    refine WL.off rfl rfl rfl rfl ?_ -- t25
    refine WL.y (Yl.pickT rfl rfl) rfl ?_ -- t26
    refine WL.nil ?_
    refine WC.condT rfl (by first | rfl | (simp; done) | (simp; omega)) ?_
    refine WC.seq ?_
    refine WC.region ?_
    refine WL.y (Yl.assign rfl) rfl ?_ -- t6
    refine WL.nil ?_
    refine WC.ret ?_
    repeat (first | (with_reducible refine peelT ?_) | (with_reducible refine peelB ?_) | (with_reducible refine peelTX ?_) | (with_reducible refine peelBX ?_) | (with_reducible refine peelBN ?_) | (with_reducible refine peelBO rfl ?_))
    exact ret1 (.inr rfl) Try.results5 rfl fun w' h => ⟨(), trivial, rfl, h.sub (by repeat (first | exact TakeL.nil | (apply TakeL.cons; · repeat (first | exact Take1.head | apply Take1.tail))))⟩
  · refine WL.on rfl rfl ?_
    refine WL.y (Yl.move rfl) rfl ?_ -- t23
    refine WL.on rfl rfl ?_
    refine WL.y (Yl.len un62 rfl) rfl ?_ -- t24
    refine WL.on rfl rfl ?_
    refine WL.y (Yl.gtr rfl rfl) rfl ?_ -- t25
    refine WL.y (Yl.pickF rfl rfl) rfl ?_ -- t26
    refine WL.nil ?_
    refine WC.cond rfl (fun g26 => ?_) (fun g26 => ?_)
    · refine WC.seq ?_
      refine WC.region ?_
      refine WL.y (Yl.assign rfl) rfl ?_ -- t6
      refine WL.nil ?_
      refine WC.ret ?_
      repeat (first | (with_reducible refine peelT ?_) | (with_reducible refine peelB ?_) | (with_reducible refine peelTX ?_) | (with_reducible refine peelBX ?_) | (with_reducible refine peelBN ?_) | (with_reducible refine peelBO rfl ?_))
      exact ret1 (.inr rfl) Try.results5 rfl fun w' h => ⟨(), trivial, rfl, h.sub (by repeat (first | exact TakeL.nil | (apply TakeL.cons; · repeat (first | exact Take1.head | apply Take1.tail))))⟩
    · refine WC.skip ?_
      refine WC.seq ?_
      have hsm : xs.length + ys.length ≤ 200 := by simpa using g22
      have hkm : ks.length ≤ 300 := by simp only [decide_eq_false_iff_not] at g26; omega
      have hzo : ROk (xs ++ ys) := fun r hr => by
        rcases List.mem_append.1 hr with h | h
        · exact hx r h
        · exact hy r h
      have hzl : (xs ++ ys).length ≤ 200 := by rw [List.length_append]; exact hsm
      have eB := any_turn hzo ks
      have eC := any_join hx hy
      have eD := any_join' hx hy
      have eG := any_again hzo ks
      have hjx := joinF_len xs
      have hjy := joinF_len ys
      have hjz := joinF_len (xs ++ ys)
      have hBx := (best_of hx).bk
      have hBy := (best_of hy).bk
      have hBz := (best_of hzo).bk
      have htl := (turnF_perm (xs ++ ys) ks).length_eq
      have hto : ROk (turnF (xs ++ ys) ks) := fun r hr => hzo r ((turnF_perm (xs ++ ys) ks).mem_iff.2 hr)
      have hfl : [xs, ys].flatten = xs ++ ys := by simp
      have hG2 : ∀ l ∈ [xs, ys], ROk l := fun l hl => by
        simp only [List.mem_cons, List.not_mem_nil, or_false] at hl
        rcases hl with rfl | rfl <;> assumption
      have hfn : [xs, ys].flatten.length ≤ 1000000 := by rw [hfl]; omega
      refine WC.region ?_
      refine WL.y (Yl.move rfl) rfl ?_ -- t27
      refine WL.y (Yl.move rfl) rfl ?_ -- t28
      refine WL.to (To.buildSlice (vs := [.slice al xs.length cl, .slice bl ys.length dl]) un56 zs22 rfl rfl (by simp [Value.cells]) (by decide) (by decide)) rfl ?_ -- t29
      intro b29
      refine WL.callC (xs := [.tmp 29]) (cap := []) rfl rfl en26 (by repeat (first | exact TakeL.nil | (apply TakeL.cons; · repeat (first | exact Take1.head | apply Take1.tail)))) (fun w hw => concatR_any [xs, ys] [.slice al xs.length cl, .slice bl ys.length dl] (.slice (some ⟨b29, 0, none⟩) 2 2) hG2 rfl hfn (by simp) w (hw.src (A := []) (RdOf.blk (size := 1) (n := 2) (cs := [.slice al xs.length cl, .slice bl ys.length dl]) (Nat.le_refl _) (by unfold maxLen; omega) (by simp) rfl) (by repeat (first | exact Take1.head | apply Take1.tail))) (oneM22 (hw.src (A := []) (r := rdR (.slice al xs.length cl) 22 xs.length (vcs rcV xs)) RdOf.rd' (by repeat (first | exact Take1.head | apply Take1.tail))) (hw.src (A := []) (r := rdR (.slice bl ys.length dl) 22 ys.length (vcs rcV ys)) RdOf.rd' (by repeat (first | exact Take1.head | apply Take1.tail)))) hw.left.here) rfl ?_ -- t30 slices.Concat[[]hailer/api.Record,hailer/api.Record]
      rintro ⟨a30, c30⟩ -
      rw [hfl]
      dsimp only [List.cons_append, List.nil_append]
      obtain ⟨zs, hzs⟩ : ∃ zs, xs ++ ys = zs := ⟨_, rfl⟩
      rw [hzs] at hzo hzl eB eC eD eG hjz hBz htl hto ⊢
      obtain ⟨LA, hLA⟩ : ∃ L, (joinF [] zs).1 = L := ⟨_, rfl⟩
      rw [hLA] at eB eC eD eG hjz hBz
      obtain ⟨ts, hts⟩ : ∃ t, turnF zs ks = t := ⟨_, rfl⟩
      rw [hts] at eB eG htl hto
      have hLo : ∀ x ∈ LA, Go.Proofs.Ytmcdbjbkkejbbaa.Bk x := hBz.bk
      have hLg : ROk LA := fun x hx => (hLo x hx).ok
      refine WL.view (fun w h => h.readOnly (v := .slice a30 zs.length c30) (by repeat (first | exact Take1.head | apply Take1.tail))) ?_
      refine WL.y (Yl.assign rfl) rfl ?_ -- t7
      refine WL.nil ?_
      refine WC.seq ?_
      refine WC.region ?_
      refine WL.y (Yl.move rfl) rfl ?_ -- t31
      refine WL.view (fun w h => h.dup (r := rdR (.slice a30 zs.length c30) 22 zs.length (vcs rcV zs)) (by repeat (first | exact Take1.head | apply Take1.tail)) (fun _ h => h)) ?_
      refine WL.callC (xs := [.tmp 31]) (cap := []) rfl rfl en23 (by repeat (first | exact TakeL.nil | (apply TakeL.cons; · repeat (first | exact Take1.head | apply Take1.tail)))) (fun w hw => of_any (.slice a30 zs.length c30) zs hzo (by omega) w hw.left.here) rfl ?_ -- t32 hailer/hailerlaw36.of
      rintro ⟨ba, aoA, caA⟩ -
      rw [hLA]
      dsimp only [bkR, List.cons_append, List.nil_append]
      refine WL.y (Yl.assign rfl) rfl ?_ -- t8
      refine WL.nil ?_
      refine WC.seq ?_
      refine WC.region ?_
      refine WL.y (Yl.move rfl) rfl ?_ -- t33
      refine WL.y (Yl.move rfl) rfl ?_ -- t34
      refine WL.callC (xs := [.tmp 33, .tmp 34]) (cap := []) rfl rfl en27 (by repeat (first | exact TakeL.nil | (apply TakeL.cons; · repeat (first | exact Take1.head | apply Take1.tail)))) (fun w hw => turned_any (.slice a30 zs.length c30) (.slice ql ks.length kl) zs ks hzo hk (by omega) (by omega) w (hw.src (A := []) (r := rdR (.slice a30 zs.length c30) 22 zs.length (vcs rcV zs)) RdOf.rd' (by repeat (first | exact Take1.head | apply Take1.tail))) (hw.src (A := []) (r := rdR (.slice ql ks.length kl) 1 ks.length (ints .u16 ks)) RdOf.rd' (by repeat (first | exact Take1.head | apply Take1.tail))) hw.left.here) rfl ?_ -- t35 hailer/hailerlaw36.turned
      rintro ⟨a35, c35⟩ -
      rw [hts]
      dsimp only [List.cons_append, List.nil_append]
      refine WL.view (fun w h => h.readOnly (v := .slice a35 ts.length c35) (by repeat (first | exact Take1.head | apply Take1.tail))) ?_
      refine WL.callC (xs := [.tmp 35]) (cap := []) rfl rfl en23 (by repeat (first | exact TakeL.nil | (apply TakeL.cons; · repeat (first | exact Take1.head | apply Take1.tail)))) (fun w hw => of_any (.slice a35 ts.length c35) ts hto (by omega) w hw.left.here) rfl ?_ -- t36 hailer/hailerlaw36.of
      rintro ⟨bb, aoB, caB⟩ -
      rw [eB]
      dsimp only [bkR, List.cons_append, List.nil_append]
      refine WL.y (Yl.assign rfl) rfl ?_ -- t9
      refine WL.nil ?_
      refine WC.seq ?_
      refine WC.region ?_
      refine WL.y (Yl.move rfl) rfl ?_ -- t37
      refine WL.view (fun w h => h.dup (r := rdR (.slice al xs.length cl) 22 xs.length (vcs rcV xs)) (by repeat (first | exact Take1.head | apply Take1.tail)) (fun _ h => h)) ?_
      refine WL.callC (xs := [.tmp 37]) (cap := []) rfl rfl en23 (by repeat (first | exact TakeL.nil | (apply TakeL.cons; · repeat (first | exact Take1.head | apply Take1.tail)))) (fun w hw => of_any (.slice al xs.length cl) xs hx (by omega) w hw.left.here) rfl ?_ -- t38 hailer/hailerlaw36.of
      rintro ⟨bc, aoC, caC⟩ -
      dsimp only [bkR, List.cons_append, List.nil_append]
      refine WL.y (Yl.assign rfl) rfl ?_ -- t10
      refine WL.nil ?_
      refine WC.seq ?_
      refine WC.region ?_
      refine WL.y (Yl.move rfl) rfl ?_ -- t39
      refine WL.y (Yl.move rfl) rfl ?_ -- t40
      refine WL.view (fun w h => h.dup (r := rdR (.slice bl ys.length dl) 22 ys.length (vcs rcV ys)) (by repeat (first | exact Take1.head | apply Take1.tail)) (fun _ h => h)) ?_
      refine WL.callC (xs := [.tmp 40]) (cap := []) rfl rfl en23 (by repeat (first | exact TakeL.nil | (apply TakeL.cons; · repeat (first | exact Take1.head | apply Take1.tail)))) (fun w hw => of_any (.slice bl ys.length dl) ys hy (by omega) w hw.left.here) rfl ?_ -- t41 hailer/hailerlaw36.of
      rintro ⟨be, aoE, caE⟩ -
      dsimp only [bkR, List.cons_append, List.nil_append]
      refine WL.view (fun w h => OK.bunO2 (r := blkR be 72 [.slice aoE (joinF [] ys).1.length caE]) (s := ownR (.slice aoE (joinF [] ys).1.length caE) 31 22 (joinF [] ys).1.length (vcs rcV (joinF [] ys).1)) h (by repeat (first | exact TakeL.nil | (apply TakeL.cons; · repeat (first | exact Take1.head | apply Take1.tail))))) ?_
      refine WL.callC (xs := [.tmp 41]) (cap := []) rfl rfl en18 (by repeat (first | exact TakeL.nil | (apply TakeL.cons; · repeat (first | exact Take1.head | apply Take1.tail)))) (fun w hw => allP_any (some ⟨be, aoE, caE, (joinF [] ys).1⟩) (fun x hx => (hBy.bk x hx).ok) (by dsimp only [btL]; omega) w hw.left.here) rfl ?_ -- t42 (*hailer/merge.Book).All
      rintro ⟨y42, own42⟩ -
      dsimp only [btL, List.cons_append, List.nil_append]
      refine WL.callC (xs := [.tmp 39, .tmp 42]) (cap := []) rfl rfl en28 (by repeat (first | exact TakeL.nil | (apply TakeL.cons; · repeat (first | exact Take1.head | apply Take1.tail)))) (fun w hw => join_any bc aoC caC (joinF [] xs).1 54 [.pointer (some ⟨y42, 0, none⟩)] own42 (joinF [] ys).1 en54 hBx (fun x hx => (hBy.bk x hx).ok) (by omega) w hw.left.here) rfl ?_ -- t43 (*hailer/merge.Book).Join
      rintro ⟨aoC2, caC2⟩ -
      rw [eC]
      dsimp only [bkR, List.cons_append, List.nil_append]
      refine WL.nil ?_
      refine WC.seq ?_
      refine WC.region ?_
      refine WL.y (Yl.move rfl) rfl ?_ -- t44
      refine WL.view (fun w h => h.dup (r := rdR (.slice bl ys.length dl) 22 ys.length (vcs rcV ys)) (by repeat (first | exact Take1.head | apply Take1.tail)) (fun _ h => h)) ?_
      refine WL.callC (xs := [.tmp 44]) (cap := []) rfl rfl en23 (by repeat (first | exact TakeL.nil | (apply TakeL.cons; · repeat (first | exact Take1.head | apply Take1.tail)))) (fun w hw => of_any (.slice bl ys.length dl) ys hy (by omega) w hw.left.here) rfl ?_ -- t45 hailer/hailerlaw36.of
      rintro ⟨bd, aoD, caD⟩ -
      dsimp only [bkR, List.cons_append, List.nil_append]
      refine WL.y (Yl.assign rfl) rfl ?_ -- t11
      refine WL.nil ?_
      refine WC.seq ?_
      refine WC.region ?_
      refine WL.y (Yl.move rfl) rfl ?_ -- t46
      refine WL.y (Yl.move rfl) rfl ?_ -- t47
      refine WL.view (fun w h => h.dup (r := rdR (.slice al xs.length cl) 22 xs.length (vcs rcV xs)) (by repeat (first | exact Take1.head | apply Take1.tail)) (fun _ h => h)) ?_
      refine WL.callC (xs := [.tmp 47]) (cap := []) rfl rfl en23 (by repeat (first | exact TakeL.nil | (apply TakeL.cons; · repeat (first | exact Take1.head | apply Take1.tail)))) (fun w hw => of_any (.slice al xs.length cl) xs hx (by omega) w hw.left.here) rfl ?_ -- t48 hailer/hailerlaw36.of
      rintro ⟨bf, aoF, caF⟩ -
      dsimp only [bkR, List.cons_append, List.nil_append]
      refine WL.view (fun w h => OK.bunO2 (r := blkR bf 72 [.slice aoF (joinF [] xs).1.length caF]) (s := ownR (.slice aoF (joinF [] xs).1.length caF) 31 22 (joinF [] xs).1.length (vcs rcV (joinF [] xs).1)) h (by repeat (first | exact TakeL.nil | (apply TakeL.cons; · repeat (first | exact Take1.head | apply Take1.tail))))) ?_
      refine WL.callC (xs := [.tmp 48]) (cap := []) rfl rfl en18 (by repeat (first | exact TakeL.nil | (apply TakeL.cons; · repeat (first | exact Take1.head | apply Take1.tail)))) (fun w hw => allP_any (some ⟨bf, aoF, caF, (joinF [] xs).1⟩) (fun x hx => (hBx.bk x hx).ok) (by dsimp only [btL]; omega) w hw.left.here) rfl ?_ -- t49 (*hailer/merge.Book).All
      rintro ⟨y49, own49⟩ -
      dsimp only [btL, List.cons_append, List.nil_append]
      refine WL.callC (xs := [.tmp 46, .tmp 49]) (cap := []) rfl rfl en28 (by repeat (first | exact TakeL.nil | (apply TakeL.cons; · repeat (first | exact Take1.head | apply Take1.tail)))) (fun w hw => join_any bd aoD caD (joinF [] ys).1 54 [.pointer (some ⟨y49, 0, none⟩)] own49 (joinF [] xs).1 en54 hBy (fun x hx => (hBx.bk x hx).ok) (by omega) w hw.left.here) rfl ?_ -- t50 (*hailer/merge.Book).Join
      rintro ⟨aoD2, caD2⟩ -
      rw [eD]
      dsimp only [bkR, List.cons_append, List.nil_append]
      refine WL.nil ?_
      refine WC.seq ?_
      refine WC.region ?_
      refine WL.y (Yl.move rfl) rfl ?_ -- t51
      refine WL.y (Yl.move rfl) rfl ?_ -- t52
      refine WL.y (Yl.move rfl) rfl ?_ -- t53
      refine WL.callC (xs := [.tmp 52, .tmp 53]) (cap := []) rfl rfl en27 (by repeat (first | exact TakeL.nil | (apply TakeL.cons; · repeat (first | exact Take1.head | apply Take1.tail)))) (fun w hw => turned_any (.slice a30 zs.length c30) (.slice ql ks.length kl) zs ks hzo hk (by omega) (by omega) w (hw.src (A := []) (r := rdR (.slice a30 zs.length c30) 22 zs.length (vcs rcV zs)) RdOf.rd' (by repeat (first | exact Take1.head | apply Take1.tail))) (hw.src (A := []) (r := rdR (.slice ql ks.length kl) 1 ks.length (ints .u16 ks)) RdOf.rd' (by repeat (first | exact Take1.head | apply Take1.tail))) hw.left.here) rfl ?_ -- t54 hailer/hailerlaw36.turned
      rintro ⟨a54, c54⟩ -
      rw [hts]
      dsimp only [List.cons_append, List.nil_append]
      refine WL.view (fun w h => h.readOnly (v := .slice a54 ts.length c54) (by repeat (first | exact Take1.head | apply Take1.tail))) ?_
      refine WL.callC (xs := [.tmp 54]) (cap := []) rfl rfl en29 (by repeat (first | exact TakeL.nil | (apply TakeL.cons; · repeat (first | exact Take1.head | apply Take1.tail)))) (fun w hw => val_any (.slice a54 ts.length c54) ts hto (by omega) w hw.left.here) rfl ?_ -- t55 slices.Values[[]hailer/api.Record,hailer/api.Record]
      rintro ⟨y55, own55⟩ -
      dsimp only [List.cons_append, List.nil_append]
      refine WL.callC (xs := [.tmp 51, .tmp 55]) (cap := []) rfl rfl en28 (by repeat (first | exact TakeL.nil | (apply TakeL.cons; · repeat (first | exact Take1.head | apply Take1.tail)))) (fun w hw => join_any ba aoA caA LA 54 [.pointer (some ⟨y55, 0, none⟩)] own55 ts en54 hBz hto (by omega) w hw.left.here) rfl ?_ -- t56 (*hailer/merge.Book).Join
      rintro ⟨aoA2, caA2⟩ -
      rw [eG]
      dsimp only [bkR, List.cons_append, List.nil_append]
      refine WL.y (Yl.assign rfl) rfl ?_ -- t12
      refine WL.nil ?_
      refine WC.seq ?_
      refine WC.view (fun w h => OK.bunO2 (r := blkR ba 72 [.slice aoA2 LA.length caA2]) (s := ownR (.slice aoA2 LA.length caA2) 31 22 LA.length (vcs rcV LA)) h (by repeat (first | exact TakeL.nil | (apply TakeL.cons; · repeat (first | exact Take1.head | apply Take1.tail))))) ?_
      refine WC.view (fun w h => OK.bunO2 (r := blkR bb 72 [.slice aoB LA.length caB]) (s := ownR (.slice aoB LA.length caB) 31 22 LA.length (vcs rcV LA)) h (by repeat (first | exact TakeL.nil | (apply TakeL.cons; · repeat (first | exact Take1.head | apply Take1.tail))))) ?_
      refine WC.view (fun w h => OK.bunO2 (r := blkR bc 72 [.slice aoC2 LA.length caC2]) (s := ownR (.slice aoC2 LA.length caC2) 31 22 LA.length (vcs rcV LA)) h (by repeat (first | exact TakeL.nil | (apply TakeL.cons; · repeat (first | exact Take1.head | apply Take1.tail))))) ?_
      refine WC.view (fun w h => OK.bunO2 (r := blkR bd 72 [.slice aoD2 LA.length caD2]) (s := ownR (.slice aoD2 LA.length caD2) 31 22 LA.length (vcs rcV LA)) h (by repeat (first | exact TakeL.nil | (apply TakeL.cons; · repeat (first | exact Take1.head | apply Take1.tail))))) ?_
      obtain ⟨A, hA⟩ : ∃ A : Bt, A = ⟨ba, aoA2, caA2, LA⟩ := ⟨_, rfl⟩
      obtain ⟨B, hB⟩ : ∃ A : Bt, A = ⟨bb, aoB, caB, LA⟩ := ⟨_, rfl⟩
      obtain ⟨C, hC⟩ : ∃ A : Bt, A = ⟨bc, aoC2, caC2, LA⟩ := ⟨_, rfl⟩
      obtain ⟨D, hD⟩ : ∃ A : Bt, A = ⟨bd, aoD2, caD2, LA⟩ := ⟨_, rfl⟩
      rw [show [blkR ba 72 [.slice aoA2 LA.length caA2], ownR (.slice aoA2 LA.length caA2) 31 22 LA.length (vcs rcV LA)] = btR (some A) by rw [hA]; rfl, show [blkR bb 72 [.slice aoB LA.length caB], ownR (.slice aoB LA.length caB) 31 22 LA.length (vcs rcV LA)] = btR (some B) by rw [hB]; rfl, show [blkR bc 72 [.slice aoC2 LA.length caC2], ownR (.slice aoC2 LA.length caC2) 31 22 LA.length (vcs rcV LA)] = btR (some C) by rw [hC]; rfl, show [blkR bd 72 [.slice aoD2 LA.length caD2], ownR (.slice aoD2 LA.length caD2) 31 22 LA.length (vcs rcV LA)] = btR (some D) by rw [hD]; rfl]
      have lA : A.l = LA := by rw [hA]
      have lB : B.l = LA := by rw [hB]
      have lC : C.l = LA := by rw [hC]
      have lD : D.l = LA := by rw [hD]
      have bA : A.b = ba := by rw [hA]
      have bB : B.b = bb := by rw [hB]
      have bC : C.b = bc := by rw [hC]
      have bD : D.b = bd := by rw [hD]
      rw [← bA, ← bB, ← bC, ← bD]
      refine WC.view (fun w h => h.bun2 (A := btR (some C)) (B := btR (some D)) (by repeat (first | exact TakeL.nil | (apply TakeL.cons; · repeat (first | exact Take1.head | apply Take1.tail))))) ?_
      refine WC.view (fun w h => h.bun2 (A := btR (some B)) (B := btR (some C) ++ btR (some D)) (by repeat (first | exact TakeL.nil | (apply TakeL.cons; · repeat (first | exact Take1.head | apply Take1.tail))))) ?_
      obtain ⟨bs, hbs⟩ : ∃ bs : List (Option Bt), bs = [some B, some C, some D] := ⟨_, rfl⟩
      rw [show btR (some B) ++ (btR (some C) ++ btR (some D)) = btsR bs by rw [hbs]; simp [btsR]]
      have hbl : bs.length = 3 := by rw [hbs]; rfl
      have hball : ∀ (i : Nat) k, bs[i]? = some k → ∃ K : Bt, k = some K ∧ K.l = LA := by
        intro i k h
        have := List.mem_of_getElem? h
        rw [hbs] at this
        simp only [List.mem_cons, List.not_mem_nil, or_false] at this
        rcases this with rfl | rfl | rfl
        · exact ⟨B, rfl, lB⟩
        · exact ⟨C, rfl, lC⟩
        · exact ⟨D, rfl, lD⟩
      refine WC.region ?_
      refine WL.y (Yl.move rfl) rfl ?_ -- t57
      refine WL.view (fun w h => h.dup (r := bunR (btR (some A))) (by repeat (first | exact Take1.head | apply Take1.tail)) (fun _ h => h)) ?_
      refine WL.callC (xs := [.tmp 57]) (cap := []) rfl rfl en18 (by repeat (first | exact TakeL.nil | (apply TakeL.cons; · repeat (first | exact Take1.head | apply Take1.tail)))) (fun w hw => allP_any (some A) (by dsimp only [btL]; rw [lA]; exact hLg) (by dsimp only [btL]; rw [lA]; omega) w hw.left.here) rfl ?_ -- t58 (*hailer/merge.Book).All
      rintro ⟨y58, own58⟩ -
      dsimp only [btL, List.cons_append, List.nil_append]
      rw [lA]
      refine WL.callC (xs := [.tmp 58]) (cap := []) rfl rfl en17 (by repeat (first | exact TakeL.nil | (apply TakeL.cons; · repeat (first | exact Take1.head | apply Take1.tail)))) (fun w hw => col_any 54 [.pointer (some ⟨y58, 0, none⟩)] own58 LA hLg (by omega) en54 w hw.left.here) rfl ?_ -- t59 slices.Collect[hailer/api.Record]
      rintro ⟨a59, c59⟩ -
      dsimp only [List.cons_append, List.nil_append]
      refine WL.y (Yl.assign rfl) rfl ?_ -- t13
      refine WL.nil ?_
      refine WC.seq ?_
      refine WC.seq ?_
      refine WC.region ?_
      refine WL.y (Yl.move rfl) rfl ?_ -- t60
      refine WL.y (Yl.move rfl) rfl ?_ -- t61
      refine WL.y (Yl.move rfl) rfl ?_ -- t62
      refine WL.to (To.buildSlice (vs := [.pointer (some ⟨B.b, 0, none⟩), .pointer (some ⟨C.b, 0, none⟩), .pointer (some ⟨D.b, 0, none⟩)]) un57 zs25 rfl rfl (by simp [Value.cells]) (by decide) (by decide)) rfl ?_ -- t63
      intro b63
      rw [show flat [.pointer (some ⟨B.b, 0, none⟩), .pointer (some ⟨C.b, 0, none⟩), .pointer (some ⟨D.b, 0, none⟩)] = bs.map btV by rw [hbs]; rfl]
      refine WL.y (Yl.len un57 rfl) rfl ?_ -- t64
      refine WL.y (Yl.move rfl) rfl ?_ -- t65
      refine WL.nil ?_
      refine WC.block ?_
      refine WC.loop (α := Nat) (fun i => [(8, .pointer (some ⟨A.b, 0, none⟩)), (12, .int .i64 0), (13, .slice a59 LA.length c59), (63, .slice (some ⟨b63, 0, none⟩) 3 3), (64, .int .i64 3), (65, .int .i64 (i : Int))]) (fun i => [blkR b63 25 (bs.map btV), bunR (btsR bs), bunR (btR (some A)), ownR (.slice a59 LA.length c59) 31 22 LA.length (vcs rcV LA)]) (fun i => i ≤ 3) (fun i => 3 - i) 0 (Nat.zero_le _) ⟨(by repeat (first | exact Sub.nil | refine Sub.cons rfl ?_)), _, (by repeat (first | exact TakeL.nil | (apply TakeL.cons; · repeat (first | exact Take1.head | apply Take1.tail))))⟩ ?_
      intro i hi
      refine WC.seq ?_
      refine WC.region ?_
      refine WL.y (Yl.lss rfl rfl) rfl ?_ -- t66
      refine WL.nil ?_
      refine WC.seq ?_
      refine WC.condD rfl (fun g66 => ?_) (fun g66 => ?_)
      · refine WC.skip ?_
        refine WC.seq ?_
        refine WC.block ?_
        refine WC.seq ?_
        refine WC.region ?_
        have hil : i < bs.length := by omega
        obtain ⟨k, hkx⟩ : ∃ k, bs[i]? = some k := ⟨_, List.getElem?_eq_getElem hil⟩
        obtain ⟨K, rfl, hK⟩ := hball i k hkx
        refine WL.y (Yl.index un57 sz25 rfl rfl (Reads.of (RdOf.blk (size := 1) (n := 3) (cs := bs.map btV) (cs' := bs.map btV) (Nat.le_refl _) (by unfold maxLen; omega) (by simp [hbl]) (by rw [List.drop_zero, List.take_of_length_le (by simp [hbl])])) (by repeat (first | exact Take1.head | apply Take1.tail))) rfl (by omega)) rfl ?_ -- t67
        refine WL.y (Yl.loadE on25 rfl (Reads.of (RdOf.blk (size := 1) (n := 3) (cs := bs.map btV) (cs' := bs.map btV) (Nat.le_refl _) (by unfold maxLen; omega) (by simp [hbl]) (by rw [List.drop_zero, List.take_of_length_le (by simp [hbl])])) (by repeat (first | exact Take1.head | apply Take1.tail))) (u := btV (some K)) (by simp [hkx])) rfl ?_
        refine WL.y (Yl.assign rfl) rfl ?_ -- t15
        refine WL.nil ?_
        refine WC.seq ?_
        refine WC.region ?_
        refine WL.y (Yl.move rfl) rfl ?_ -- t69
        refine WL.view (fun w h => h.pick (A := btsR bs) (B := btR (some K)) (by repeat (first | exact Take1.head | apply Take1.tail)) (btsR_mem hkx)) ?_
        refine WL.callC (xs := [.tmp 69]) (cap := []) rfl rfl en18 (by repeat (first | exact TakeL.nil | (apply TakeL.cons; · repeat (first | exact Take1.head | apply Take1.tail)))) (fun w hw => allP_any (some K) (by dsimp only [btL]; rw [hK]; exact hLg) (by dsimp only [btL]; rw [hK]; omega) w hw.left.here) rfl ?_ -- t70 (*hailer/merge.Book).All
        rintro ⟨y70, own70⟩ -
        dsimp only [btL, List.cons_append, List.nil_append]
        rw [hK]
        refine WL.callC (xs := [.tmp 70]) (cap := []) rfl rfl en17 (by repeat (first | exact TakeL.nil | (apply TakeL.cons; · repeat (first | exact Take1.head | apply Take1.tail)))) (fun w hw => col_any 54 [.pointer (some ⟨y70, 0, none⟩)] own70 LA hLg (by omega) en54 w hw.left.here) rfl ?_ -- t71 slices.Collect[hailer/api.Record]
        rintro ⟨a71, c71⟩ -
        dsimp only [List.cons_append, List.nil_append]
        refine WL.y (Yl.move rfl) rfl ?_ -- t72
        refine WL.callC (xs := [.tmp 71, .tmp 72]) (cap := []) rfl rfl en16 (by repeat (first | exact TakeL.nil | (apply TakeL.cons; · repeat (first | exact Take1.head | apply Take1.tail)))) (fun w hw => equalR_any (.slice a71 LA.length c71) (.slice a59 LA.length c59) LA LA hLg hLg (by omega) w (hw.src (A := []) (r := ownR (.slice a71 LA.length c71) 31 22 LA.length (vcs rcV LA)) RdOf.own (by repeat (first | exact Take1.head | apply Take1.tail))) (hw.src (A := []) (r := ownR (.slice a59 LA.length c59) 31 22 LA.length (vcs rcV LA)) RdOf.own (by repeat (first | exact Take1.head | apply Take1.tail))) hw.left.here) rfl ?_ -- t73 slices.Equal[[]hailer/api.Record,hailer/api.Record]
        rintro ⟨⟩ -
        refine WL.know (t := 73) (b' := true) rfl (by first | rfl | (simp; done) | (simp; omega)) ?_
        refine WL.y (Yl.not rfl) rfl ?_ -- t74
        refine WL.know (t := 74) (b' := false) rfl (by first | rfl | (simp; done) | (simp; omega)) ?_
        refine WL.y (Yl.move rfl) rfl ?_ -- t75
        refine WL.know (t := 75) (b' := false) rfl (by first | rfl | (simp; done) | (simp; omega)) ?_
        refine WL.on rfl rfl ?_
        refine WL.y (Yl.move rfl) rfl ?_ -- t76
        refine WL.on rfl rfl ?_
        refine WL.view (fun w h => h.pick (A := btsR bs) (B := btR (some K)) (by repeat (first | exact Take1.head | apply Take1.tail)) (btsR_mem hkx)) ?_
        refine WL.callC (xs := [.tmp 76]) (cap := []) rfl rfl en15 (by repeat (first | exact TakeL.nil | (apply TakeL.cons; · repeat (first | exact Take1.head | apply Take1.tail)))) (fun w hw => digestP_any K (by rw [hK]; exact hLo) (by rw [hK]; omega) w hw.left.here) rfl ?_ -- t77 (*hailer/merge.Book).Digest
        rintro ⟨⟩ -
        dsimp only [List.cons_append, List.nil_append]
        refine WL.on rfl rfl ?_
        refine WL.y (Yl.move rfl) rfl ?_ -- t78
        refine WL.on rfl rfl ?_
        refine WL.view (fun w h => h.dup (r := bunR (btR (some A))) (by repeat (first | exact Take1.head | apply Take1.tail)) (fun _ h => h)) ?_
        refine WL.callC (xs := [.tmp 78]) (cap := []) rfl rfl en15 (by repeat (first | exact TakeL.nil | (apply TakeL.cons; · repeat (first | exact Take1.head | apply Take1.tail)))) (fun w hw => digestP_any A (by rw [lA]; exact hLo) (by rw [lA]; omega) w hw.left.here) rfl ?_ -- t79 (*hailer/merge.Book).Digest
        rintro ⟨⟩ -
        dsimp only [List.cons_append, List.nil_append]
        rw [hK, lA]
        refine WL.on rfl rfl ?_
        refine WL.y (Yl.neA fl8 rfl rfl (fits8 (digF_len _) (digF_by _)) (fits8 (digF_len _) (digF_by _))) rfl ?_
        refine WL.know (t := 80) (b' := false) rfl (by rw [eqV_ints]; simp) ?_
        refine WL.y (Yl.pickF rfl rfl) rfl ?_ -- t81
        refine WL.know (t := 81) (b' := false) rfl (by first | rfl | (simp; done) | (simp; omega)) ?_
        refine WL.nil ?_
        refine WC.condF rfl (by first | rfl | (simp; done) | (simp; omega)) ?_
        refine WC.skip ?_
        refine WC.region ?_
        refine WL.y (Yl.add rfl rfl (IntWalk.i64_in _ (by omega))) rfl ?_ -- t82
        refine WL.y (Yl.move rfl) rfl ?_ -- t65
        refine WL.nil ?_
        exact ⟨rfl, i + 1, by omega, by omega, (by repeat (first | exact Sub.nil | refine Sub.cons rfl ?_)), _, (by repeat (first | exact TakeL.nil | (apply TakeL.cons; · repeat (first | exact Take1.head | apply Take1.tail))))⟩
      · refine WC.exit ?_
        refine WC.seq ?_
        refine WC.region ?_
        refine WL.y (Yl.move rfl) rfl ?_ -- t83
        refine WL.y (Yl.eql rfl rfl) rfl ?_ -- t84
        refine WL.y (Yl.assign rfl) rfl ?_ -- t6
        refine WL.nil ?_
        refine WC.ret ?_
        repeat (first | (with_reducible refine peelT ?_) | (with_reducible refine peelB ?_) | (with_reducible refine peelTX ?_) | (with_reducible refine peelBX ?_) | (with_reducible refine peelBN ?_) | (with_reducible refine peelBO rfl ?_))
        exact ret1 (.inr rfl) Try.results5 rfl fun w' h => ⟨(), trivial, rfl, h.sub (by repeat (first | exact TakeL.nil | (apply TakeL.cons; · repeat (first | exact Take1.head | apply Take1.tail))))⟩
end Go.Proofs.Ytmcdbjbkkejbbaa
