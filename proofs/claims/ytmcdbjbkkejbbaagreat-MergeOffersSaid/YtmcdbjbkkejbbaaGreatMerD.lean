/- Books: what they come to in short, by bucket: the walks. -/
import Derived.Test.YtmcdbjbkkejbbaaGreatMerC
import Derived.Test.YtmcdbjbkkejbbaaGreatShaH
import Derived.Test.YtmcdbjbkkejbbaaGreatLibI
namespace Go.Proofs.YtmcdbjbkkejbbaaGreat
open Go Go.RowKit
/-- Three that are only read stand twice as well. -/
theorem OK.dup3 {w0 : World} {S : Pm} {H F F2 F3 : List Res} {w : World} {r s q : Res} (h : OK w0 S H w) (t : TakeL H [roR r, roR s, roR q] F) : OK w0 S (roR r :: roR s :: roR q :: H) w := by
  have hp := h.perm t.perm
  have h1 := (hp.dup (r := roR q) (F := roR r :: roR s :: F) (.tail (.tail .head)) (fun _ h => h))
  have h2 := (h1.dup (r := roR s) (.tail (.tail .head)) (fun _ h => h))
  have h3 := (h2.dup (r := roR r) (.tail (.tail .head)) (fun _ h => h))
  exact h3.perm (List.Perm.cons _ (List.Perm.cons _ (List.Perm.cons _ t.perm.symm)))
theorem allB_app (xs ys : List Rc) : allB (xs ++ ys) = allB xs ++ allB ys := by unfold allB; simp
theorem allB_one (x : Rc) : allB [x] = recB x := by unfold allB; simp
def digF (xs : List Rc) : List Int := (sum256 (allB xs)).take 8
theorem digF_len (xs : List Rc) : (digF xs).length = 8 := by unfold digF; rw [List.length_take, sum256_len]; rfl
theorem oneM {w : World} {T : Pm} {v : Value} {c : List Int} (h : RdS w T v 1 c.length (ints .u8 c)) : ∀ (i : Nat) (v' : Value) (c' : List Int), [v][i]? = some v' → [c][i]? = some c' → RdS w T v' 1 c'.length (ints .u8 c') := by
  intro i v' c' h1 h2
  cases i with
  | zero =>
    simp at h1 h2
    subst h1 h2
    exact h
  | succ i => simp at h1
set_option maxRecDepth 100000 in
theorem dig_any (gf : Nat) (lb : List Value) (own : Nat → Prop) (xs : List Rc) (hB : ∀ x ∈ xs, Go.Proofs.YtmcdbjbkkejbbaaGreat.Bk x) (hl : xs.length ≤ 2000) (eg : ∀ args w, (callFunc gf args).run Tryz.prog w = .ok (.enter gf args) w) (w : World) (hw : OK w (fpL [itR Tryz.prog gf lb own (ysR xs)]) [itR Tryz.prog gf lb own (ysR xs)] w) :
    Fn Tryz.prog 31 [.func (.func gf) #[] lb.toArray] [itR Tryz.prog gf lb own (ysR xs)] w (fun _ : Unit => True) (fun _ => .agg (ints .u8 (digF xs)).toArray) (fun _ => []) := by
  have hG : ROk xs := fun x hx => (hB x hx).ok
  have hal := allB_len hG
  have hd8 : (ints .u8 (digF xs)).length = 8 := by rw [ints_length, digF_len]
  have hs32 : (ints .u8 (sum256 (allB xs))).length = 32 := by rw [ints_length, sum256_len]
  refine enterM Tryz.func31 rfl Tryz.ntmps31 rfl hw ?_
  refine WC.seq ?_
  refine WC.region ?_
  refine WL.to (To.alloc (cs := ints .u8 (List.replicate 8 0)) zr41 rfl) rfl ?_ -- t2
  intro b2
  refine WL.nil ?_
  refine WC.seq ?_
  refine WC.region ?_
  refine WL.to (To.alloc (cs := [.slice none 0 0]) zr23 rfl) rfl ?_ -- t3
  intro b3
  refine WL.nil ?_
  refine WC.seq ?_
  refine WC.seq ?_
  refine WC.view (fun w h => h.addNil 5 1) ?_
  refine WC.region ?_
  refine WL.y (Yl.move rfl) rfl ?_ -- t6
  refine WL.nil ?_
  refine WC.block ?_
  refine WC.range (α := Option Addr × Nat) (lb := lb) (xs := ysR xs) (fun i s => [blkR b3 23 [.slice s.1 (43 * i) s.2], ownR (.slice s.1 (43 * i) s.2) 5 1 (43 * i) (ints .u8 (allB (xs.take i)))]) (fun _ _ => True) (none, 0) rfl eg ysR_size rfl (by repeat (first | exact Take1.head | apply Take1.tail)) trivial (by repeat (first | exact TakeL.nil | (apply TakeL.cons; · repeat (first | exact Take1.head | apply Take1.tail)))) ?_ ?_
  · rintro l2 i x ⟨ao1, ca1⟩ hx - W
    obtain ⟨x, hx0, rfl⟩ := ysR_at hx
    have hil := (List.getElem?_eq_some_iff.1 hx0).1
    have hxo : x.ok := hG.get hx0
    have h22 := Rc.cells_len hxo.len
    have hnx : allB (xs.take (i + 1)) = allB (xs.take i) ++ recB x := by rw [← take_snoc _ _ _ hx0, allB_app, allB_one]
    dsimp only
    show WC _ _ _ ((7, .agg x.cells.toArray) :: _) _ _
    refine WC.region ?_
    refine WL.to (To.alloc (cs := Rc.zero.cells) zr33 rfl) rfl ?_ -- t4
    intro b4
    refine WL.sto (Sto.agg sz33 rfl rfl (by repeat (first | exact Take1.head | apply Take1.tail)) (Rc.ones _) h22 (by rfl) (Rc.all (r := Rc.zero) rfl x.cells h22)) (fun _ h => nomatch h) ?_ -- st 1
    refine WL.nil ?_
    repeat (first | (with_reducible refine peelT ?_) | (with_reducible refine peelB ?_) | (with_reducible refine peelTX ?_) | (with_reducible refine peelBX ?_) | (with_reducible refine peelBN ?_) | (with_reducible refine peelBO rfl ?_))
    refine fun W2 => ?_
    refine WC.block ?_
    refine WC.drawLast 4 (Hs := [blkR b3 23 [.slice ao1 (43 * i) ca1], blkR b4 33 x.cells]) rfl rfl mixed (by kernel_rfl) ⟨_, (by repeat (first | exact TakeL.nil | (apply TakeL.cons; · repeat (first | exact Take1.head | apply Take1.tail))))⟩ ?_
    dsimp only [List.dropLast]
    refine WD.take 0 rfl (by kernel_rfl) (by kernel_rfl) (by kernel_rfl) rfl rfl (Yl.load on23 rfl (by repeat (first | exact Take1.head | apply Take1.tail)) (by rfl)) rfl ?_ -- t8
    refine WD.take 1 rfl (by kernel_rfl) (by kernel_rfl) (by kernel_rfl) rfl rfl (Yl.loadN ag33 rfl (by repeat (first | exact Take1.head | apply Take1.tail)) (leB (by rw [h22]; omega)) (Rc.call hxo.len)) rfl ?_ -- t9
    refine WD.one 2 (by kernel_rfl) ?_
    refine WO.callC (xs := [.tmp 9]) (cap := []) rfl .no rfl rfl en30 (by repeat (first | exact TakeL.nil | (apply TakeL.cons; · repeat (first | exact Take1.head | apply Take1.tail)))) (fun w hw => putM_any x hxo (hB x (List.mem_of_getElem? hx0)).may w hw.left.here) rfl (fun _ => ⟨_, (by repeat (first | exact TakeL.nil | (apply TakeL.cons; · repeat (first | exact Take1.head | apply Take1.tail))))⟩) ?_ -- t10 hailer/merge.put
    rintro ⟨a10, c10⟩ -
    dsimp only [List.cons_append, List.nil_append]
    refine WD.one 3 (by kernel_rfl) ?_
    refine WO.to rfl rfl .no (To.append sl23 rfl rfl (by repeat (first | exact Take1.head | apply Take1.tail)) (Reads.of (RdOf.own (v := .slice a10 43 c10)) (by repeat (first | exact Take1.head | apply Take1.tail))) (ints_one _ _) (show _ = 43 * (i + 1) by omega) (show _ = ints .u8 (allB (xs.take (i + 1))) by rw [hnx]; simp [ints]) (by unfold maxLen; omega) (by omega)) rfl (fun _ => ⟨_, (by repeat (first | exact TakeL.nil | (apply TakeL.cons; · repeat (first | exact Take1.head | apply Take1.tail))))⟩) ?_ -- t11
    rintro ⟨⟨ao11, c11⟩, hc11⟩
    dsimp only at hc11 ⊢
    refine WD.done (by kernel_rfl) ?_
    refine ⟨_, (Sto.one sz23 rfl rfl (by repeat (first | exact Take1.head | apply Take1.tail)) rfl (by rfl) (by rfl)), ?_⟩ -- st 2
    repeat (first | (with_reducible refine peelT ?_) | (with_reducible refine peelB ?_) | (with_reducible refine peelTX ?_) | (with_reducible refine peelBX ?_) | (with_reducible refine peelBN ?_) | (with_reducible refine peelBO rfl ?_))
    exact ⟨[blkR b3 23 [.slice ao11 (43 * (i + 1)) c11], ownR (.slice ao11 (43 * (i + 1)) c11) 5 1 (43 * (i + 1)) (ints .u8 (allB (xs.take (i + 1))))], _, (by repeat (first | exact TakeL.nil | (apply TakeL.cons; · repeat (first | exact Take1.head | apply Take1.tail)))), (ao11, c11), trivial, rfl⟩
  · rintro ⟨ao1, ca1⟩ D -
    rw [ysR_len, List.take_length]
    dsimp only [List.cons_append, List.nil_append]
    refine WC.seq ?_
    refine WC.region ?_
    refine WL.y (Yl.load on23 rfl (by repeat (first | exact Take1.head | apply Take1.tail)) (by rfl)) rfl ?_ -- t12
    refine WL.to (To.buildSlice (vs := [.slice ao1 (43 * xs.length) ca1]) un123 zs23 rfl rfl (by simp [Value.cells]) (by decide) (by decide)) rfl ?_ -- t13
    intro b13
    refine WL.callC (xs := [.tmp 13]) (cap := []) rfl rfl en61 (by repeat (first | exact TakeL.nil | (apply TakeL.cons; · repeat (first | exact Take1.head | apply Take1.tail)))) (fun w hw => sum256_any [allB xs] [.slice ao1 (43 * xs.length) ca1] (.slice (some ⟨b13, 0, none⟩) 1 1) rfl (by simp; omega) (by simp) w (hw.src (A := []) (RdOf.blk (size := 1) (cs := [.slice ao1 (43 * xs.length) ca1]) (Nat.le_refl _) (by unfold maxLen; omega) (by simp) rfl) (by repeat (first | exact Take1.head | apply Take1.tail))) (oneM (by rw [hal]; exact hw.src (A := []) RdOf.own (by repeat (first | exact Take1.head | apply Take1.tail)))) hw.left.here) rfl ?_ -- t14 hailer/sha.Sum256
    rintro ⟨⟩ -
    rw [show ([allB xs] : List (List Int)).flatten = allB xs by simp]
    refine WL.to (To.alloc (cs := ints .u8 (List.replicate 32 0)) zr100 rfl) rfl ?_ -- t5
    intro b5
    refine WL.sto (Sto.agg sz100 rfl rfl (by repeat (first | exact Take1.head | apply Take1.tail)) (ints_one _ _) hs32 (by rfl) (putAll rfl)) (fun _ h => nomatch h) ?_ -- st 3
    refine WL.nil ?_
    refine WC.seq ?_
    refine WC.region ?_
    refine WL.y (Yl.sliceArrH (h := 8) un100 sz5 (by decide) rfl rfl (by omega)) rfl ?_
    refine WL.y (Yl.arrAt un41 rfl (by omega)) rfl ?_
    refine WL.y (Yl.loadN ag41 rfl (by repeat (first | exact Take1.head | apply Take1.tail)) (leB (by rw [hs32]; omega)) (show _ = ints .u8 (digF xs) by rw [List.drop_zero]; exact ints_take _ _ _)) rfl ?_ -- t17
    refine WL.sto (Sto.agg sz41 rfl rfl (by repeat (first | exact Take1.head | apply Take1.tail)) (ints_one _ _) hd8 (by rfl) (putAll rfl)) (fun _ h => nomatch h) ?_ -- st 4
    refine WL.nil ?_
    refine WC.ret ?_
    repeat (first | (with_reducible refine peelT ?_) | (with_reducible refine peelB ?_) | (with_reducible refine peelTX ?_) | (with_reducible refine peelBX ?_) | (with_reducible refine peelBN ?_) | (with_reducible refine peelBO rfl ?_))
    refine retM.of (.cons (by repeat (first | exact Take1.head | apply Take1.tail)) .nil) ?_
    exact retC1 (.inr rfl) Tryz.results31 ag41 rfl (by repeat (first | exact Take1.head | apply Take1.tail)) hd8 fun w' h => ⟨(), trivial, rfl, h.sub (by repeat (first | exact TakeL.nil | (apply TakeL.cons; · repeat (first | exact Take1.head | apply Take1.tail))))⟩
theorem OK.dup2 {w0 : World} {S : Pm} {H F : List Res} {w : World} {r s : Res} (h : OK w0 S H w) (t : TakeL H [roR r, roR s] F) : OK w0 S (roR r :: roR s :: H) w := by
  have hp := h.perm t.perm
  have h2 := (hp.dup (r := roR s) (.tail .head) (fun _ h => h))
  have h3 := (h2.dup (r := roR r) (.tail .head) (fun _ h => h))
  exact h3.perm (List.Perm.cons _ (List.Perm.cons _ t.perm.symm))
theorem digestNil_any (w : World) (hw : OK w (fpL []) [] w) :
    Fn Tryz.prog 22 [.pointer none] [] w (fun _ : Unit => True) (fun _ => .agg (ints .u8 (List.replicate 8 0)).toArray) (fun _ => []) := by
  refine enterF Tryz.func22 rfl Tryz.ntmps22 rfl hw ?_
  refine WC.seq ?_
  refine WC.region ?_
  refine WL.to (To.alloc (cs := ints .u8 (List.replicate 8 0)) zr41 rfl) rfl ?_ -- t2
  intro b2
  refine WL.nil ?_
  refine WC.seq ?_
  refine WC.seq ?_
  refine WC.region ?_
  refine WL.y (Yl.move rfl) rfl ?_ -- t3
  refine WL.y (Yl.nilEq un26 rfl rfl) rfl ?_ -- t4
  refine WL.know (t := 4) (b' := true) rfl (by first | rfl | (simp; done) | (simp; omega)) ?_
  refine WL.nil ?_
  refine WC.condT rfl (by first | rfl | (simp; done) | (simp; omega)) ?_
  refine WC.seq ?_
  refine WC.region ?_
  refine WL.y (Yl.build rfl (cs := ints .u8 (List.replicate 8 0)) (fun _ => by kernel_rfl)) rfl ?_ -- t5
  refine WL.sto (Sto.agg sz41 rfl rfl (by repeat (first | exact Take1.head | apply Take1.tail)) (ints_one _ _) rfl (by rfl) (putAll rfl)) (fun _ h => nomatch h) ?_ -- st 1
  refine WL.nil ?_
  refine WC.ret ?_
  repeat (first | (with_reducible refine peelT ?_) | (with_reducible refine peelB ?_) | (with_reducible refine peelTX ?_) | (with_reducible refine peelBX ?_) | (with_reducible refine peelBN ?_) | (with_reducible refine peelBO rfl ?_))
  exact retC1 (.inr rfl) Tryz.results22 ag41 rfl (by repeat (first | exact Take1.head | apply Take1.tail)) rfl fun w' h => ⟨(), trivial, rfl, h.sub (by repeat (first | exact TakeL.nil | (apply TakeL.cons; · repeat (first | exact Take1.head | apply Take1.tail))))⟩
theorem digest_any (b : Nat) (ao : Option Addr) (ca : Nat) (l : List Rc) (hB : ∀ x ∈ l, Go.Proofs.YtmcdbjbkkejbbaaGreat.Bk x) (hl : l.length ≤ 2000) (w : World) (hw : OK w (fpL ((bkR b ao ca l).map roR)) ((bkR b ao ca l).map roR) w) :
    Fn Tryz.prog 22 [.pointer (some ⟨b, 0, none⟩)] ((bkR b ao ca l).map roR) w (fun _ : Unit => True) (fun _ => .agg (ints .u8 (digF l)).toArray) (fun _ => []) := by
  have hd8 : (ints .u8 (digF l)).length = 8 := by rw [ints_length, digF_len]
  refine enterF Tryz.func22 rfl Tryz.ntmps22 rfl hw ?_
  refine WC.seq ?_
  refine WC.region ?_
  refine WL.to (To.alloc (cs := ints .u8 (List.replicate 8 0)) zr41 rfl) rfl ?_ -- t2
  intro b2
  refine WL.nil ?_
  refine WC.seq ?_
  refine WC.seq ?_
  refine WC.region ?_
  refine WL.y (Yl.move rfl) rfl ?_ -- t3
  refine WL.y (Yl.nilEq un26 rfl rfl) rfl ?_ -- t4
  refine WL.know (t := 4) (b' := false) rfl (by first | rfl | (simp; done) | (simp; omega)) ?_
  refine WL.nil ?_
  refine WC.condF rfl (by first | rfl | (simp; done) | (simp; omega)) ?_
  refine WC.skip ?_
  refine WC.seq ?_
  refine WC.region ?_
  refine WL.y (Yl.move rfl) rfl ?_ -- t6
  refine WL.callC (xs := [.tmp 6]) (cap := []) rfl rfl en8 (by repeat (first | exact TakeL.nil | (apply TakeL.cons; · repeat (first | exact Take1.head | apply Take1.tail)))) (fun w hw => allM_any b ao ca l (fun x hx => (hB x hx).ok) (by omega) w hw.left.here) rfl ?_ -- t7 (*hailer/merge.Book).All
  rintro ⟨bn, own⟩ -
  dsimp only [List.cons_append, List.nil_append]
  refine WL.callC (xs := [.tmp 7]) (cap := []) rfl rfl en31 (by repeat (first | exact TakeL.nil | (apply TakeL.cons; · repeat (first | exact Take1.head | apply Take1.tail)))) (fun w hw => dig_any 52 [.pointer (some ⟨bn, 0, none⟩)] own l hB hl en52 w hw.left.here) rfl ?_ -- t8 hailer/merge.digest
  rintro ⟨⟩ -
  dsimp only [List.cons_append, List.nil_append]
  refine WL.sto (Sto.agg sz41 rfl rfl (by repeat (first | exact Take1.head | apply Take1.tail)) (ints_one _ _) hd8 (by rfl) (putAll rfl)) (fun _ h => nomatch h) ?_ -- st 2
  refine WL.nil ?_
  refine WC.ret ?_
  repeat (first | (with_reducible refine peelT ?_) | (with_reducible refine peelB ?_) | (with_reducible refine peelTX ?_) | (with_reducible refine peelBX ?_) | (with_reducible refine peelBN ?_) | (with_reducible refine peelBO rfl ?_))
  exact retC1 (.inr rfl) Tryz.results22 ag41 rfl (by repeat (first | exact Take1.head | apply Take1.tail)) hd8 fun w' h => ⟨(), trivial, rfl, h.sub (by repeat (first | exact TakeL.nil | (apply TakeL.cons; · repeat (first | exact Take1.head | apply Take1.tail))))⟩
/-- A record's bucket; a bucket's records. -/
def buI (r : Rc) : Int := r.id.headD 0 % 16
theorem buI_is {r : Rc} (h : r.ok) : r.cells[0]? = some (.int .u8 (r.id.headD 0)) ∧ 0 ≤ r.id.headD 0 ∧ r.id.headD 0 < 256 := by
  cases hi : r.id with
  | nil => have := h.len; rw [hi] at this; simp at this
  | cons x xs =>
    have hx := h.id x (by rw [hi]; simp)
    exact ⟨by unfold Rc.cells; rw [hi]; rfl, hx.1, hx.2⟩
theorem buI_lt {r : Rc} (h : r.ok) : 0 ≤ buI r ∧ buI r < 16 := by unfold buI; omega
def buF (l : List Rc) (n : Int) : List Rc := l.filter fun r => decide (buI r = n)
theorem buF_mem {l : List Rc} {n : Int} {x : Rc} (h : x ∈ buF l n) : x ∈ l := (List.mem_filter.1 h).1
theorem buF_len (l : List Rc) (n : Int) : (buF l n).length ≤ l.length := List.length_filter_le _ _
theorem filter_take {α : Type} {p : α → Bool} {zs : List α} {i : Nat} {x : α} (h : zs[i]? = some x) : (zs.take (i + 1)).filter p = (zs.take i).filter p ++ (if p x then [x] else []) := by
  rw [List.take_add_one, h, List.filter_append]
  cases hp : p x <;> simp [hp]
theorem filter_get {α : Type} {p : α → Bool} {zs : List α} {i : Nat} {x : α} (h : zs[i]? = some x) (hp : p x = true) : (zs.filter p)[((zs.take i).filter p).length]? = some x := by
  have e : zs.filter p = (zs.take i).filter p ++ (zs.drop i).filter p := by rw [← List.filter_append, List.take_append_drop]
  have hlt := (List.getElem?_eq_some_iff.1 h).1
  have hd : zs.drop i = x :: zs.drop (i + 1) := by
    rw [List.drop_eq_getElem_cons hlt]
    congr 1
    exact (List.getElem?_eq_some_iff.1 h).2
  rw [e, hd, List.filter_cons_of_pos hp, List.getElem?_append_right (Nat.le_refl _), Nat.sub_self]
  rfl
def buA (c2 c3 : Nat) (n : Int) (b : Nat) (ao : Option Addr) (ca : Nat) (l : List Rc) : List Res := [roR (blkR c2 26 [.pointer (some ⟨b, 0, none⟩)]), roR (blkR c3 3 [.int .i64 n]), roR (blkR b 64 [.slice ao l.length ca]), roR (ownR (.slice ao l.length ca) 33 22 l.length (vcs rcV l))]
theorem bu1_iter (c2 c3 : Nat) (n : Int) (b : Nat) (ao : Option Addr) (ca : Nat) (xs : List Rc) (hG : ROk xs) (hl : xs.length ≤ 1000000) (w : World) (hA : OK w (fpL (buA c2 c3 n b ao ca xs)) (buA c2 c3 n b ao ca xs) w) :
    Iter Tryz.prog 62 ([.pointer (some ⟨c2, 0, none⟩), .pointer (some ⟨c3, 0, none⟩)] : List Value).toArray (fpL (buA c2 c3 n b ao ca xs)).rd (ysR (buF xs n)) w := by
  unfold buA at hA ⊢
  have hwr : ∀ r ∈ [roR (blkR c2 26 [.pointer (some ⟨b, 0, none⟩)]), roR (blkR c3 3 [.int .i64 n]), roR (blkR b 64 [.slice ao xs.length ca]), roR (ownR (.slice ao xs.length ca) 33 22 xs.length (vcs rcV xs))], ∀ k, ¬ r.wr k := by
    intro r hr k hk
    simp at hr
    rcases hr with rfl | rfl | rfl | rfl <;> exact hk
  refine iter_ofM Tryz.func62 rfl Tryz.ntmps62 rfl hA hwr ?_
  intro l W g gx T0 hy
  refine WC.seq ?_
  refine WC.region ?_
  refine WL.to (To.box (cs := [.func (.yield l) #[] #[]]) rfl rfl) rfl ?_ -- t3
  intro b3
  refine WL.nil ?_
  refine WC.seq ?_
  refine WC.region ?_
  refine WL.y (Yl.loadRo on26 rfl (by repeat (first | exact Take1.head | apply Take1.tail)) (by rfl)) rfl ?_
  refine WL.callC (xs := [.tmp 5]) (cap := []) rfl rfl en8 (by repeat (first | exact TakeL.nil | (apply TakeL.cons; · repeat (first | exact Take1.head | apply Take1.tail)))) (fun w hw => allM_any b ao ca xs hG hl w hw.left.here) rfl ?_ -- t6 (*hailer/merge.Book).All
  rintro ⟨bn, own⟩ -
  refine WL.nil ?_
  refine WC.block ?_
  refine WC.range (α := Nat × (Nat → Prop)) (xs := ysR xs) (fun i s => [gstR g s.1 s.2, blkR b3 75 [.func (.yield l) #[] #[]], roR (blkR c3 3 [.int .i64 n])]) (fun i s => s.1 = ((xs.take i).filter (fun r => decide (buI r = n))).length) (0, T0) rfl en52 ysR_size rfl (by repeat (first | exact Take1.head | apply Take1.tail)) rfl (by repeat (first | exact TakeL.nil | (apply TakeL.cons; · repeat (first | exact Take1.head | apply Take1.tail)))) ?_ ?_
  · intro l2 i x s hx hs W2
    obtain ⟨k, T⟩ := s
    dsimp only at hs ⊢
    obtain ⟨x, hx0, rfl⟩ := ysR_at hx
    have hxo : x.ok := hG.get hx0
    have h22 := Rc.cells_len hxo.len
    obtain ⟨hb0, hb1, hb2⟩ := buI_is hxo
    have hnext := filter_take (p := fun r => decide (buI r = n)) hx0
    show WC _ _ _ ((7, .agg x.cells.toArray) :: _) _ _
    refine WC.region ?_
    refine WL.to (To.alloc (cs := Rc.zero.cells) zr33 rfl) rfl ?_ -- t4
    intro b4
    refine WL.sto (Sto.agg sz33 rfl rfl (by repeat (first | exact Take1.head | apply Take1.tail)) (Rc.ones _) h22 (by rfl) (Rc.all (r := Rc.zero) rfl x.cells h22)) (fun _ h => nomatch h) ?_ -- st 1
    refine WL.nil ?_
    repeat (first | (with_reducible refine peelT ?_) | (with_reducible refine peelB ?_) | (with_reducible refine peelTX ?_) | (with_reducible refine peelBX ?_) | (with_reducible refine peelBN ?_) | (with_reducible refine peelBO rfl ?_))
    refine fun W2 => ?_
    refine WC.block ?_
    refine WC.seq ?_
    refine WC.region ?_
    refine WL.y (Yl.field fo33_0 rfl) rfl ?_ -- t8
    refine WL.y (Yl.indexA (j := 0) un30 sz5 rfl rfl rfl (by omega)) rfl ?_ -- t9
    refine WL.y (Yl.load on5 rfl (by repeat (first | exact Take1.head | apply Take1.tail)) hb0) rfl ?_ -- t10
    refine WL.y (Yl.conv un5 un3 rfl (IntWalk.i64_in _ (by omega))) rfl ?_ -- t11
    refine WL.y (Yl.rem rfl rfl (by omega) (i64_rem (by omega))) rfl ?_ -- t12
    refine WL.y (Yl.loadRo on3 rfl (by repeat (first | exact Take1.head | apply Take1.tail)) (by rfl)) rfl ?_
    refine WL.y (Yl.eql rfl rfl) rfl ?_ -- t14
    refine WL.y (Yl.move rfl) rfl ?_ -- t15
    refine WL.both (t := 15) rfl (fun g15 => ?_) (fun g15 => ?_)
    · refine WL.on rfl rfl ?_
      refine WL.y (Yl.load on75 rfl (by repeat (first | exact Take1.head | apply Take1.tail)) (by rfl)) rfl ?_ -- t16
      refine WL.on rfl rfl ?_
      refine WL.y (Yl.loadN ag33 rfl (by repeat (first | exact Take1.head | apply Take1.tail)) (leB (by rw [h22]; omega)) (Rc.call hxo.len)) rfl ?_ -- t17
      refine WL.on rfl rfl ?_
      refine WL.fact (p := buI x = n) (fun _ _ => by unfold buI; simpa using g15) (fun hq => ?_)
      have hq2 : (buF xs n)[k]? = some x := by rw [hs]; exact filter_get hx0 (decide_eq_true hq)
      have hkl := (List.getElem?_eq_some_iff.1 hq2).1
      rw [if_pos (decide_eq_true hq)] at hnext
      refine WL.yield (xs := [.tmp 17]) (i := k) hy rfl rfl (ysR_get hq2) (by repeat (first | exact Take1.head | apply Take1.tail)) rfl ?_
      intro b18 T'
      refine WL.on rfl rfl ?_
      refine WL.y (Yl.not rfl) rfl ?_ -- t19
      refine WL.y (Yl.pickT rfl rfl) rfl ?_ -- t20
      refine WL.nil ?_
      refine WC.cond rfl (fun g20 => ?_) (fun g20 => ?_)
      · refine WC.ret ?_
        repeat (first | (with_reducible refine peelT ?_) | (with_reducible refine peelB ?_) | (with_reducible refine peelTX ?_) | (with_reducible refine peelBX ?_) | (with_reducible refine peelBN ?_) | (with_reducible refine peelBO rfl ?_))
        have hb : b18 = false := by simpa using g20
        subst hb
        simp only [Bool.false_eq_true, if_false]
        refine ⟨[gstR gx k T'], _, (by repeat (first | exact TakeL.nil | (apply TakeL.cons; · repeat (first | exact Take1.head | apply Take1.tail)))), fun D => ?_⟩
        dsimp only [List.cons_append, List.nil_append]
        repeat (first | (with_reducible refine peelT ?_) | (with_reducible refine peelB ?_) | (with_reducible refine peelTX ?_) | (with_reducible refine peelBX ?_) | (with_reducible refine peelBN ?_) | (with_reducible refine peelBO rfl ?_))
        first | (refine retM.of (.cons (by repeat (first | exact Take1.head | apply Take1.tail)) .nil) ?_; rw [← hk]; exact itEnd (.inl rfl) Tryz.results62 (by repeat (first | exact Take1.head | apply Take1.tail))) | (refine retM.of (.cons (by repeat (first | exact Take1.head | apply Take1.tail)) .nil) ?_; exact itStop (i := k) (.inr rfl) Tryz.results62 (by repeat (first | exact Take1.head | apply Take1.tail)) (by rw [ysR_len]; exact hkl))
      · refine WC.skip ?_
        repeat (first | (with_reducible refine peelT ?_) | (with_reducible refine peelB ?_) | (with_reducible refine peelTX ?_) | (with_reducible refine peelBX ?_) | (with_reducible refine peelBN ?_) | (with_reducible refine peelBO rfl ?_))
        first | (have hb : b18 = true := (by simpa using g20); subst hb; simp only [if_true]; exact ⟨[gstR g (k + 1) T', blkR b3 75 [.func (.yield l) #[] #[]], roR (blkR c3 3 [.int .i64 n])], _, (by repeat (first | exact TakeL.nil | (apply TakeL.cons; · repeat (first | exact Take1.head | apply Take1.tail)))), (k + 1, T'), (by dsimp only; rw [hnext, List.length_append, hs]; rfl), rfl⟩) | (have hq : ¬ buI x = n := (by unfold buI; simpa using g15); rw [if_neg (by simpa using hq), List.append_nil] at hnext; exact ⟨[gstR g k T, blkR b3 75 [.func (.yield l) #[] #[]], roR (blkR c3 3 [.int .i64 n])], _, (by repeat (first | exact TakeL.nil | (apply TakeL.cons; · repeat (first | exact Take1.head | apply Take1.tail)))), (k, T), (by dsimp only; rw [hnext]; exact hs), rfl⟩)
    · refine WL.off rfl rfl rfl rfl ?_ -- t16
      refine WL.off rfl rfl rfl rfl ?_ -- t17
      refine WL.off rfl rfl rfl rfl ?_ -- t18
      refine WL.off rfl rfl rfl rfl ?_ -- t19
      refine WL.y (Yl.pickF rfl rfl) rfl ?_ -- t20
      refine WL.nil ?_
      refine WC.condF rfl (by first | rfl | (simp; done) | (simp; omega)) ?_
      refine WC.skip ?_
      repeat (first | (with_reducible refine peelT ?_) | (with_reducible refine peelB ?_) | (with_reducible refine peelTX ?_) | (with_reducible refine peelBX ?_) | (with_reducible refine peelBN ?_) | (with_reducible refine peelBO rfl ?_))
      first | (have hb : b18 = true := (by simpa using g20); subst hb; simp only [if_true]; exact ⟨[gstR g (k + 1) T', blkR b3 75 [.func (.yield l) #[] #[]], roR (blkR c3 3 [.int .i64 n])], _, (by repeat (first | exact TakeL.nil | (apply TakeL.cons; · repeat (first | exact Take1.head | apply Take1.tail)))), (k + 1, T'), (by dsimp only; rw [hnext, List.length_append, hs]; rfl), rfl⟩) | (have hq : ¬ buI x = n := (by unfold buI; simpa using g15); rw [if_neg (by simpa using hq), List.append_nil] at hnext; exact ⟨[gstR g k T, blkR b3 75 [.func (.yield l) #[] #[]], roR (blkR c3 3 [.int .i64 n])], _, (by repeat (first | exact TakeL.nil | (apply TakeL.cons; · repeat (first | exact Take1.head | apply Take1.tail)))), (k, T), (by dsimp only; rw [hnext]; exact hs), rfl⟩)
  · rintro ⟨k, T⟩ D hs
    dsimp only at hs
    have hk : k = (ysR (buF xs n)).length := by rw [hs, ysR_len, ysR_len, List.take_length]; rfl
    dsimp only [List.cons_append, List.nil_append]
    repeat (first | (with_reducible refine peelT ?_) | (with_reducible refine peelB ?_) | (with_reducible refine peelTX ?_) | (with_reducible refine peelBX ?_) | (with_reducible refine peelBN ?_) | (with_reducible refine peelBO rfl ?_))
    first | (refine retM.of (.cons (by repeat (first | exact Take1.head | apply Take1.tail)) .nil) ?_; rw [← hk]; exact itEnd (.inl rfl) Tryz.results62 (by repeat (first | exact Take1.head | apply Take1.tail))) | (refine retM.of (.cons (by repeat (first | exact Take1.head | apply Take1.tail)) .nil) ?_; exact itStop (i := k) (.inr rfl) Tryz.results62 (by repeat (first | exact Take1.head | apply Take1.tail)) (by rw [ysR_len]; exact hkl))
theorem bucket_any (b : Nat) (ao : Option Addr) (ca : Nat) (l : List Rc) (n : Int) (hG : ROk l) (hl : l.length ≤ 1000000) (w : World) (hw : OK w (fpL ((bkR b ao ca l).map roR)) ((bkR b ao ca l).map roR) w) :
    Fn Tryz.prog 32 [.pointer (some ⟨b, 0, none⟩), .int .i64 n] ((bkR b ao ca l).map roR) w (fun _ : (Nat × Nat) × (Nat → Prop) => True) (fun y => .func (.func 62) #[] #[.pointer (some ⟨y.1.1, 0, none⟩), .pointer (some ⟨y.1.2, 0, none⟩)]) (fun y => [itR Tryz.prog 62 [.pointer (some ⟨y.1.1, 0, none⟩), .pointer (some ⟨y.1.2, 0, none⟩)] y.2 (ysR (buF l n))]) := by
  unfold bkR at hw ⊢
  try dsimp only [List.map_cons, List.map_nil] at hw ⊢
  refine enterF Tryz.func32 rfl Tryz.ntmps32 rfl hw ?_
  refine WC.seq ?_
  refine WC.region ?_
  refine WL.to (To.box rfl rfl) rfl ?_ -- t2
  intro b2
  refine WL.to (To.box rfl rfl) rfl ?_ -- t3
  intro b3
  refine WL.y (Yl.assign rfl) rfl ?_ -- t4
  refine WL.nil ?_
  refine WC.seq ?_
  refine WC.region ?_
  refine WL.y (Yl.makeFunc (xs := []) (ys := [.tmp 2, .tmp 3]) rfl rfl) rfl ?_ -- t5
  refine WL.y (Yl.assign rfl) rfl ?_ -- t4
  refine WL.nil ?_
  refine WC.ret ?_
  repeat (first | (with_reducible refine peelT ?_) | (with_reducible refine peelB ?_) | (with_reducible refine peelTX ?_) | (with_reducible refine peelBX ?_) | (with_reducible refine peelBN ?_) | (with_reducible refine peelBO rfl ?_))
  refine ret1 (.inr rfl) Tryz.results32 rfl fun w' hh => ⟨((b2, b3), (fpL (buA b2 b3 n b ao ca l)).rd), trivial, rfl, ?_⟩
  have hA : OK w _ ([blkR b2 26 [.pointer (some ⟨b, 0, none⟩)], blkR b3 3 [.int .i64 n], roR (blkR b 64 [.slice ao l.length ca]), roR (ownR (.slice ao l.length ca) 33 22 l.length (vcs rcV l))] ++ []) w' := hh.sub (by repeat (first | exact TakeL.nil | (apply TakeL.cons; · repeat (first | exact Take1.head | apply Take1.tail))))
  exact hA.toIter (bu1_iter b2 b3 n b ao ca l hG hl w' hA.freeze.here) (fun k hk => rd_freeze (A := [blkR b2 26 [.pointer (some ⟨b, 0, none⟩)], blkR b3 3 [.int .i64 n], roR (blkR b 64 [.slice ao l.length ca]), roR (ownR (.slice ao l.length ca) 33 22 l.length (vcs rcV l))]) hk)
end Go.Proofs.YtmcdbjbkkejbbaaGreat
