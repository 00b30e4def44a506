/- MergeOffers: the law. -/
import Derived.Test.YtmcdbjbkkejbbaaGreatMerT
import Derived.Test.YtmcdbjbkkejbbaaGreatMerQ
import Derived.Test.YtmcdbjbkkejbbaaGreatLibLd
namespace Go.Proofs.YtmcdbjbkkejbbaaGreat
open Go Go.RowKit
/-- A book that is gone over, while it is still owned. -/
theorem allL_any (b : Nat) (ao : Option Addr) (ca : Nat) (l : List Rc) (hG : ROk l) (hl : l.length ≤ 1000000) (w : World) (hw : OK w (fpL (bkR b ao ca l)) (bkR b ao ca l) w) :
    Fn Tryz.prog 8 [.pointer (some ⟨b, 0, none⟩)] (bkR b ao ca l) w (fun _ : Nat × (Nat → Prop) => True) (fun y => .func (.func 52) #[] #[.pointer (some ⟨y.1, 0, none⟩)]) (fun y => [lendR (bkR b ao ca l) (itR Tryz.prog 52 [.pointer (some ⟨y.1, 0, none⟩)] y.2 (ysR l))]) :=
  Fn.lend (it := fun y : Nat × (Nat → Prop) => itR Tryz.prog 52 [.pointer (some ⟨y.1, 0, none⟩)] y.2 (ysR l)) (fun _ _ h => h) (fun hw => allM_any b ao ca l hG hl w hw) hw
theorem colL_any (A : List Res) (gf : Nat) (lb : List Value) (own : Nat → Prop) (xs : List Rc) (hG : ROk xs) (hl : xs.length ≤ 1000000) (eg : ∀ args w, (callFunc gf args).run Tryz.prog w = .ok (.enter gf args) w) (w : World) (hw : OK w (fpL [lendR A (itR Tryz.prog gf lb own (ysR xs))]) [lendR A (itR Tryz.prog gf lb own (ysR xs))] w) :
    Fn Tryz.prog 7 [.func (.func gf) #[] lb.toArray] [lendR A (itR Tryz.prog gf lb own (ysR xs))] w (fun _ : Option Addr × Nat => True) (fun y => .slice y.1 xs.length y.2) (fun y => ownR (.slice y.1 xs.length y.2) 33 22 xs.length (vcs rcV xs) :: A) :=
  Fn.unlend (B := fun y : Option Addr × Nat => [ownR (.slice y.1 xs.length y.2) 33 22 xs.length (vcs rcV xs)]) (fun _ h => h) (fun y s hs k hk => by rw [List.mem_singleton.1 hs] at hk ⊢; exact hk) (fun hw => col_any gf lb own xs hG hl eg w hw) hw
theorem digestsK_any (b : Nat) (ao : Option Addr) (ca : Nat) (l : List Rc) (hB : ∀ x ∈ l, Go.Proofs.YtmcdbjbkkejbbaaGreat.Bk x) (hl : l.length ≤ 2000) (w : World) (hw : OK w (fpL (bkR b ao ca l)) (bkR b ao ca l) w) :
    Fn Tryz.prog 13 [.pointer (some ⟨b, 0, none⟩)] (bkR b ao ca l) w (fun _ : Unit => True) (fun _ => .agg (ints .u8 (digsF l)).toArray) (fun _ => bkR b ao ca l) :=
  Fn.keep (fun hw => digests_any b ao ca l hB hl w hw) hw
/-- Is a record's bucket unlike? -/
def wP (P Q : List Rc) (r : Rc) : Bool := decide (digF (buF P (buI r)) ≠ digF (buF Q (buI r)))
theorem off_wP {P Q : List Rc} (h : ROk P) : offL P (digsF Q) = P.filter (wP P Q) := by
  unfold offL
  refine List.filter_congr fun r hr => ?_
  have := buI_lt (h r hr)
  unfold offP wP arF
  rw [digsF_at Q (by omega)]
  unfold bdF
  rw [Int.toNat_of_nonneg this.1]
theorem digF_by (l : List Rc) : Bytes (digF l) := fun x hx => sum256_by _ x (List.mem_of_mem_take hx)
theorem joinF_len' (xs : List Rc) : (joinF [] xs).1.length ≤ xs.length := by simpa using (join_len xs []).1
def wN (P Q : List Rc) (i : Nat) : List Int := allB ((P.take i).filter (wP P Q))
theorem wN_next {P Q : List Rc} {i : Nat} {x : Rc} (h : P[i]? = some x) : wN P Q (i + 1) = wN P Q i ++ (if wP P Q x then recB x else []) := by
  unfold wN
  rw [filter_take h]
  split
  · rw [allB_snoc]
  · simp
theorem wN_len {P Q : List Rc} (h : ROk P) (i : Nat) : (wN P Q i).length ≤ 43 * P.length := by
  have h1 : ((P.take i).filter (wP P Q)).length ≤ P.length := Nat.le_trans (List.length_filter_le _ _) (by rw [List.length_take]; omega)
  have h2 := allB_len (rs := (P.take i).filter (wP P Q)) (fun q hq => h q (List.mem_of_mem_take (List.mem_filter.1 hq).1))
  unfold wN
  omega
def jN (Q rs : List Rc) (k : Nat) : List Rc × Nat := joinF Q (rs.take k)
theorem jN_next {Q rs : List Rc} {k : Nat} {x : Rc} (h : rs[k]? = some x) : jN Q rs (k + 1) = ((takeF (jN Q rs k).1 x).1, (jN Q rs k).2 + b2n (takeF (jN Q rs k).1 x).2) := by unfold jN; rw [← take_snoc _ _ _ h, join_snoc]
set_option maxRecDepth 100000 in
set_option maxHeartbeats 1600000 in
theorem offers_any (v1 v2 v3 : Value) (xs ys : List Rc) (bs : List Int) (hx : ROk xs) (hy : ROk ys) (hB : Bytes bs) (lx : xs.length ≤ 281474976710656) (ly : ys.length ≤ 281474976710656) (w : World) (hw : OK w (fpL [rdR v1 22 xs.length (vcs rcV xs), rdR v2 22 ys.length (vcs rcV ys), rdR v3 1 bs.length (ints .u8 bs)]) [rdR v1 22 xs.length (vcs rcV xs), rdR v2 22 ys.length (vcs rcV ys), rdR v3 1 bs.length (ints .u8 bs)] w) :
    Fn Tryz.prog 3 [v1, v2, v3] [rdR v1 22 xs.length (vcs rcV xs), rdR v2 22 ys.length (vcs rcV ys), rdR v3 1 bs.length (ints .u8 bs)] w (fun _ : Unit => True) (fun _ => .bool true) (fun _ => []) := by
  obtain ⟨al, cl, rfl, hcl, hml⟩ := (hw.get .head : Rd _ _ _ _ _).form
  obtain ⟨bl, dl, rfl, hdl, hml2⟩ := (hw.get (.tail .head) : Rd _ _ _ _ _).form
  obtain ⟨el, fl, rfl, hfl, hml3⟩ := (hw.get (.tail (.tail .head)) : Rd _ _ _ _ _).form
  refine enterF Tryz.func3 rfl Tryz.ntmps3 rfl hw ?_
  refine WC.seq ?_
  refine WC.region ?_
  refine WL.y (Yl.assign rfl) rfl ?_ -- t6
  refine WL.nil ?_
  refine WC.seq ?_
  refine WC.seq ?_
  refine WC.region ?_
  refine WL.callC (xs := []) (cap := []) rfl rfl en4 (by repeat (first | exact TakeL.nil | (apply TakeL.cons; · repeat (first | exact Take1.head | apply Take1.tail)))) (fun w hw => known_any w hw.left.here) rfl ?_ -- t24 hailer/hailerlaw36.known
  rintro ⟨⟩ -
  refine WL.y (Yl.not rfl) rfl ?_ -- t25
  refine WL.know (t := 25) (b' := false) rfl (by first | rfl | (simp; done) | (simp; omega)) ?_
  refine WL.nil ?_
  refine WC.condF rfl (by first | rfl | (simp; done) | (simp; omega)) ?_
  refine WC.skip ?_
  refine WC.seq ?_
  refine WC.seq ?_
  refine WC.region ?_
  refine WL.y (Yl.move rfl) rfl ?_ -- t26
  refine WL.y (Yl.move rfl) rfl ?_ -- t27
  refine WL.to (To.buildSlice (vs := [.slice al xs.length cl, .slice bl ys.length dl]) un60 zs22 rfl rfl (by simp [Value.cells]) (by decide) (by decide)) rfl ?_ -- t28
  intro b28
  refine WL.callC (xs := [.tmp 28]) (cap := []) rfl rfl en5 (by repeat (first | exact TakeL.nil | (apply TakeL.cons; · repeat (first | exact Take1.head | apply Take1.tail)))) (fun w hw => heavy_any (.slice (some ⟨b28, 0, none⟩) 2 2) [(al, xs.length, cl), (bl, ys.length, dl)] (by simp) (by intro y hy; simp only [List.mem_cons, List.not_mem_nil, or_false] at hy; rcases hy with rfl | rfl; exact lx; exact ly) w (hw.src (A := []) (RdOf.blk (size := 1) (n := 2) (cs := [.slice al xs.length cl, .slice bl ys.length dl]) (Nat.le_refl _) (by unfold maxLen; omega) (by simp) rfl) (by repeat (first | exact Take1.head | apply Take1.tail))) hw.left.here) rfl ?_ -- t29 hailer/hailerlaw36.heavy
  rintro ⟨⟩ -
  refine WL.y (Yl.move rfl) rfl ?_ -- t30
  refine WL.both (t := 30) rfl (fun g30 => ?_) (fun g30 => ?_)
  · refine WL.off rfl rfl rfl rfl ?_ -- t31
    refine WL.off rfl rfl rfl rfl ?_ -- t32
    refine WL.off rfl rfl rfl rfl ?_ -- t33
    refine WL.y (Yl.pickT rfl rfl) rfl ?_ -- t34
    refine WL.nil ?_
    refine WC.condT rfl (by first | rfl | (simp; done) | (simp; omega)) ?_
    refine WC.seq ?_
    refine WC.region ?_
    refine WL.y (Yl.assign rfl) rfl ?_ -- t6
    refine WL.nil ?_
    refine WC.ret ?_
    repeat (first | (with_reducible refine peelT ?_) | (with_reducible refine peelB ?_) | (with_reducible refine peelTX ?_) | (with_reducible refine peelBX ?_) | (with_reducible refine peelBN ?_) | (with_reducible refine peelBO rfl ?_))
    exact ret1 (.inr rfl) Tryz.results3 rfl fun w' h => ⟨(), trivial, rfl, h.sub (by repeat (first | exact TakeL.nil | (apply TakeL.cons; · repeat (first | exact Take1.head | apply Take1.tail))))⟩
  · refine WL.on rfl rfl ?_
    refine WL.y (Yl.move rfl) rfl ?_ -- t31
    refine WL.on rfl rfl ?_
    refine WL.y (Yl.len un23 rfl) rfl ?_ -- t32
    refine WL.on rfl rfl ?_
    refine WL.y (Yl.gtr rfl rfl) rfl ?_ -- t33
    refine WL.y (Yl.pickF rfl rfl) rfl ?_ -- t34
    refine WL.nil ?_
    refine WC.cond rfl (fun g34 => ?_) (fun g34 => ?_)
    · refine WC.seq ?_
      refine WC.region ?_
      refine WL.y (Yl.assign rfl) rfl ?_ -- t6
      refine WL.nil ?_
      refine WC.ret ?_
      repeat (first | (with_reducible refine peelT ?_) | (with_reducible refine peelB ?_) | (with_reducible refine peelTX ?_) | (with_reducible refine peelBX ?_) | (with_reducible refine peelBN ?_) | (with_reducible refine peelBO rfl ?_))
      exact ret1 (.inr rfl) Tryz.results3 rfl fun w' h => ⟨(), trivial, rfl, h.sub (by repeat (first | exact TakeL.nil | (apply TakeL.cons; · repeat (first | exact Take1.head | apply Take1.tail))))⟩
    · refine WC.skip ?_
      refine WC.seq ?_
      have hsm : xs.length + ys.length ≤ 200 := by have := g30; simp at this; omega
      have hbm : bs.length ≤ 5000 := by have := g34; simp at this; omega
      have hrn := recN_le bs
      have hBx : Book (joinF [] xs).1 := Book.nil.join hx
      have hBy : Book (joinF [] ys).1 := Book.nil.join hy
      have hlx := joinF_len' xs
      have hly := joinF_len' ys
      refine WC.region ?_
      refine WL.y (Yl.move rfl) rfl ?_ -- t35
      refine WL.callC (xs := [.tmp 35]) (cap := []) rfl rfl en6 (by repeat (first | exact TakeL.nil | (apply TakeL.cons; · repeat (first | exact Take1.head | apply Take1.tail)))) (fun w hw => ofB_any (.slice al xs.length cl) xs hx (by omega) w hw.left.here) rfl ?_ -- t36 hailer/hailerlaw36.of
      rintro ⟨ba, aoA, caA⟩ -
      dsimp only [bkR, List.cons_append, List.nil_append]
      refine WL.y (Yl.move rfl) rfl ?_ -- t37
      refine WL.callC (xs := [.tmp 37]) (cap := []) rfl rfl en6 (by repeat (first | exact TakeL.nil | (apply TakeL.cons; · repeat (first | exact Take1.head | apply Take1.tail)))) (fun w hw => ofB_any (.slice bl ys.length dl) ys hy (by omega) w hw.left.here) rfl ?_ -- t38 hailer/hailerlaw36.of
      rintro ⟨bb, aoB, caB⟩ -
      dsimp only [bkR, List.cons_append, List.nil_append]
      refine WL.y (Yl.assign rfl) rfl ?_ -- t7
      refine WL.y (Yl.assign rfl) rfl ?_ -- t8
      refine WL.nil ?_
      refine WC.seq ?_
      obtain ⟨P, hP⟩ : ∃ l, (joinF [] xs).1 = l := ⟨_, rfl⟩
      obtain ⟨Q, hQ⟩ : ∃ l, (joinF [] ys).1 = l := ⟨_, rfl⟩
      rw [hP, hQ]
      rw [hP] at hBx hlx
      rw [hQ] at hBy hly
      refine WC.view (fun w h => OK.bunO2 (r := blkR ba 64 [.slice aoA P.length caA]) (s := ownR (.slice aoA P.length caA) 33 22 P.length (vcs rcV P)) h (by repeat (first | exact TakeL.nil | (apply TakeL.cons; · repeat (first | exact Take1.head | apply Take1.tail))))) ?_
      obtain ⟨A, hA⟩ : ∃ A : Bt, A = ⟨ba, aoA, caA, P⟩ := ⟨_, rfl⟩
      rw [show [blkR ba 64 [.slice aoA P.length caA], ownR (.slice aoA P.length caA) 33 22 P.length (vcs rcV P)] = btR (some A) by rw [hA]; rfl]
      have lA : A.l = P := by rw [hA]
      have bA : A.b = ba := by rw [hA]
      rw [← bA]
      refine WC.region ?_
      refine WL.y (Yl.move rfl) rfl ?_ -- t39
      refine WL.view (fun w h => h.dup (r := bunR (btR (some A))) (by repeat (first | exact Take1.head | apply Take1.tail)) (fun _ h => h)) ?_
      refine WL.callC (xs := [.tmp 39]) (cap := []) rfl rfl en8 (by repeat (first | exact TakeL.nil | (apply TakeL.cons; · repeat (first | exact Take1.head | apply Take1.tail)))) (fun w hw => allP_any (some A) (by dsimp only [btL]; rw [lA]; exact hBx.rok) (by dsimp only [btL]; rw [lA]; omega) w hw.left.here) rfl ?_ -- t40 (*hailer/merge.Book).All
      rintro ⟨y40, own40⟩ -
      dsimp only [btL, List.cons_append, List.nil_append]
      rw [lA]
      refine WL.callC (xs := [.tmp 40]) (cap := []) rfl rfl en7 (by repeat (first | exact TakeL.nil | (apply TakeL.cons; · repeat (first | exact Take1.head | apply Take1.tail)))) (fun w hw => col_any 52 [.pointer (some ⟨y40, 0, none⟩)] own40 P hBx.rok (by omega) en52 w hw.left.here) rfl ?_ -- t41 slices.Collect[hailer/api.Record]
      rintro ⟨aoP, caP⟩ -
      dsimp only [List.cons_append, List.nil_append]
      refine WL.view (fun w h => h.readOnly (v := .slice aoP P.length caP) (by repeat (first | exact Take1.head | apply Take1.tail))) ?_
      refine WL.y (Yl.move rfl) rfl ?_ -- t42
      refine WL.callC (xs := [.tmp 42]) (cap := []) rfl rfl en8 (by repeat (first | exact TakeL.nil | (apply TakeL.cons; · repeat (first | exact Take1.head | apply Take1.tail)))) (fun w hw => allL_any bb aoB caB Q hBy.rok (by omega) w hw.left.here) rfl ?_ -- t43 (*hailer/merge.Book).All
      rintro ⟨y43, own43⟩ -
      dsimp only [List.cons_append, List.nil_append]
      refine WL.callC (xs := [.tmp 43]) (cap := []) rfl rfl en7 (by repeat (first | exact TakeL.nil | (apply TakeL.cons; · repeat (first | exact Take1.head | apply Take1.tail)))) (fun w hw => colL_any (bkR bb aoB caB Q) 52 [.pointer (some ⟨y43, 0, none⟩)] own43 Q hBy.rok (by omega) en52 w hw.left.here) rfl ?_ -- t44 slices.Collect[hailer/api.Record]
      rintro ⟨aoQ, caQ⟩ -
      dsimp only [bkR, List.cons_append, List.nil_append]
      refine WL.view (fun w h => h.readOnly (v := .slice aoQ Q.length caQ) (by repeat (first | exact Take1.head | apply Take1.tail))) ?_
      refine WL.y (Yl.assign rfl) rfl ?_ -- t9
      refine WL.y (Yl.assign rfl) rfl ?_ -- t10
      refine WL.nil ?_
      refine WC.seq ?_
      refine WC.region ?_
      refine WL.y (Yl.assign rfl) rfl ?_ -- t11
      refine WL.nil ?_
      refine WC.seq ?_
      refine WC.seq ?_
      refine WC.region ?_
      refine WL.y (Yl.move rfl) rfl ?_ -- t45
      refine WL.y (Yl.len un22 rfl) rfl ?_ -- t46
      refine WL.y (Yl.move rfl) rfl ?_ -- t47
      refine WL.nil ?_
      refine WC.block ?_
      refine WC.view (fun w h => h.addNil 5 1) ?_
      refine WC.loop (α := Nat × (Option Addr × Nat)) (fun s => [(2, .slice el bs.length fl), (7, .pointer (some ⟨A.b, 0, none⟩)), (8, .pointer (some ⟨bb, 0, none⟩)), (9, .slice aoP P.length caP), (10, .slice aoQ Q.length caQ), (11, .slice s.2.1 (wN P Q s.1).length s.2.2), (45, .slice aoP P.length caP), (46, .int .i64 (P.length : Int)), (47, .int .i64 (s.1 : Int))]) (fun s => [rdR (.slice aoP P.length caP) 22 P.length (vcs rcV P), rdR (.slice aoQ Q.length caQ) 22 Q.length (vcs rcV Q), bunR (btR (some A)), blkR bb 64 [.slice aoB Q.length caB], ownR (.slice aoB Q.length caB) 33 22 Q.length (vcs rcV Q), rdR (.slice el bs.length fl) 1 bs.length (ints .u8 bs), ownR (.slice s.2.1 (wN P Q s.1).length s.2.2) 5 1 (wN P Q s.1).length (ints .u8 (wN P Q s.1))]) (fun s => s.1 ≤ P.length) (fun s => P.length - s.1) (0, (none, 0)) (Nat.zero_le _) ⟨(by repeat (first | exact Sub.nil | refine Sub.cons rfl ?_)), _, (by repeat (first | exact TakeL.nil | (apply TakeL.cons; · repeat (first | exact Take1.head | apply Take1.tail))))⟩ ?_
      rintro ⟨i, aoW, caW⟩ hi
      dsimp only at hi ⊢
      have hwl := wN_len (Q := Q) hBx.rok i
      refine WC.seq ?_
      refine WC.region ?_
      refine WL.y (Yl.lss rfl rfl) rfl ?_ -- t48
      refine WL.nil ?_
      refine WC.seq ?_
      refine WC.condD rfl (fun g48 => ?_) (fun g48 => ?_)
      · refine WC.skip ?_
        refine WC.seq ?_
        refine WC.block ?_
        refine WC.seq ?_
        refine WC.region ?_
        have hil : i < P.length := by omega
        obtain ⟨x, hxx⟩ : ∃ x, P[i]? = some x := ⟨_, List.getElem?_eq_getElem hil⟩
        have hxb := hBx.bk x (List.mem_of_getElem? hxx)
        have hxo := hxb.ok
        have h22 := Rc.cells_len hxo.len
        obtain ⟨hb0, hb1, hb2⟩ := buI_is hxo
        have hrl := recB_len hxo.len
        have hnx := wN_next (Q := Q) hxx
        have hwl2 := wN_len (Q := Q) hBx.rok (i + 1)
        refine WL.y (Yl.index un22 sz33 rfl rfl (Reads.of (r := rdR (.slice aoP P.length caP) 22 P.length (vcs rcV P)) RdOf.rd' (by repeat (first | exact Take1.head | apply Take1.tail))) rfl (by omega)) rfl ?_ -- t49
        refine WL.y (Yl.loadV (j := i) (u := x) vtR hBx.rok rfl (Reads.of (r := rdR (.slice aoP P.length caP) 22 P.length (vcs rcV P)) RdOf.rd' (by repeat (first | exact Take1.head | apply Take1.tail))) rfl hxx) rfl ?_
        refine WL.to (To.alloc (cs := Rc.zero.cells) zr33 rfl) rfl ?_ -- t13
        intro b13
        refine WL.sto (Sto.agg sz33 rfl rfl (by repeat (first | exact Take1.head | apply Take1.tail)) (Rc.ones _) h22 (by rfl) (Rc.all (r := Rc.zero) rfl x.cells h22)) (fun _ h => nomatch h) ?_ -- st 1
        refine WL.nil ?_
        refine WC.seq ?_
        refine WC.region ?_
        refine WL.y (Yl.field fo33_0 rfl) rfl ?_ -- t51
        refine WL.y (Yl.indexA (j := 0) un30 sz5 rfl rfl rfl (by omega)) rfl ?_ -- t52
        refine WL.y (Yl.load on5 rfl (by repeat (first | exact Take1.head | apply Take1.tail)) hb0) rfl ?_ -- t53
        refine WL.y (Yl.conv un5 un3 rfl (IntWalk.i64_in _ (by omega))) rfl ?_ -- t54
        refine WL.y (Yl.rem rfl rfl (by omega) (i64_rem (by omega))) rfl ?_ -- t55
        refine WL.say (t := 55) (v' := .int .i64 (buI x)) rfl (by rfl) ?_
        refine WL.y (Yl.assign rfl) rfl ?_ -- t14
        refine WL.nil ?_
        refine WC.midE (α := Unit) (fun _ => [(66, .bool (wP P Q x))]) (fun _ => [rdR (.slice aoP P.length caP) 22 P.length (vcs rcV P), rdR (.slice aoQ Q.length caQ) 22 Q.length (vcs rcV Q), bunR (btR (some A)), blkR bb 64 [.slice aoB Q.length caB], ownR (.slice aoB Q.length caB) 33 22 Q.length (vcs rcV Q), rdR (.slice el bs.length fl) 1 bs.length (ints .u8 bs), ownR (.slice aoW (wN P Q i).length caW) 5 1 (wN P Q i).length (ints .u8 (wN P Q i)), blkR b13 33 x.cells]) (fun _ => True) ?_ ?_
        · refine WC.drawAny (Hs := [rdR (.slice aoP P.length caP) 22 P.length (vcs rcV P), rdR (.slice aoQ Q.length caQ) 22 Q.length (vcs rcV Q)]) mixed (by kernel_rfl) ⟨_, (by repeat (first | exact TakeL.nil | (apply TakeL.cons; · repeat (first | exact Take1.head | apply Take1.tail))))⟩ ?_
          refine WD.take 0 rfl (by kernel_rfl) (by kernel_rfl) (by kernel_rfl) rfl rfl (Yl.move rfl) rfl ?_ -- t56
          refine WD.take 1 rfl (by kernel_rfl) (by kernel_rfl) (by kernel_rfl) rfl rfl (Yl.move rfl) rfl ?_ -- t57
          refine WD.take 5 rfl (by kernel_rfl) (by kernel_rfl) (by kernel_rfl) rfl rfl (Yl.move rfl) rfl ?_ -- t61
          refine WD.take 6 rfl (by kernel_rfl) (by kernel_rfl) (by kernel_rfl) rfl rfl (Yl.move rfl) rfl ?_ -- t62
          refine WD.one 2 (by kernel_rfl) ?_
          refine WO.callC (xs := [.tmp 56, .tmp 57]) (cap := []) rfl .no rfl rfl en10 (by repeat (first | exact TakeL.nil | (apply TakeL.cons; · repeat (first | exact Take1.head | apply Take1.tail)))) (fun w hw => bucketR_any (.slice aoP P.length caP) P (buI x) hBx.rok (by omega) w (hw.src (A := []) (r := rdR (.slice aoP P.length caP) 22 P.length (vcs rcV P)) RdOf.rd' (by repeat (first | exact Take1.head | apply Take1.tail))) hw.left.here) rfl (fun _ => ⟨_, (by repeat (first | exact TakeL.nil | (apply TakeL.cons; · repeat (first | exact Take1.head | apply Take1.tail))))⟩) ?_ -- t58 hailer/hailerref36.Bucket
          rintro ⟨a58, c58⟩ -
          dsimp only [List.cons_append, List.nil_append]
          refine WD.one 3 (by kernel_rfl) ?_
          refine WO.callC (xs := [.tmp 58]) (cap := []) rfl .no rfl rfl en9 (by repeat (first | exact TakeL.nil | (apply TakeL.cons; · repeat (first | exact Take1.head | apply Take1.tail)))) (fun w hw => digestR_any (.slice a58 (buF P (buI x)).length c58) (buF P (buI x)) (fun q hq => hBx.rok q (buF_mem hq)) (Nat.le_trans (buF_len _ _) (by omega)) w (hw.src (A := []) (r := ownR (.slice a58 (buF P (buI x)).length c58) 33 22 (buF P (buI x)).length (vcs rcV (buF P (buI x)))) RdOf.own (by repeat (first | exact Take1.head | apply Take1.tail))) hw.left.here) rfl (fun _ => ⟨_, (by repeat (first | exact TakeL.nil | (apply TakeL.cons; · repeat (first | exact Take1.head | apply Take1.tail))))⟩) ?_ -- t59 hailer/hailerref36.Digest
          rintro ⟨a59, c59⟩ -
          dsimp only [List.cons_append, List.nil_append]
          refine WD.two 4 7 (by kernel_rfl) ?_ ?_
          · refine WO.y rfl rfl .no (Yl.toStr un23 un5 un9 rfl (show Reads _ _ (subS (.slice a59 (8 * 4) c59) 0 8 c59 1) 1 (digF (buF P (buI x))).length (ints .u8 (digF (buF P (buI x)))) by rw [digF_len]; exact Reads.of (r := rdR (subS (.slice a59 (8 * 4) c59) 0 8 c59 1) 1 8 (ints .u8 (digF (buF P (buI x))))) RdOf.rd' (by repeat (first | exact Take1.head | apply Take1.tail)))) rfl ?_ -- t60
            refine WD.one 7 (by kernel_rfl) ?_
            refine WO.callC (xs := [.tmp 61, .tmp 62]) (cap := []) rfl .no rfl rfl en10 (by repeat (first | exact TakeL.nil | (apply TakeL.cons; · repeat (first | exact Take1.head | apply Take1.tail)))) (fun w hw => bucketR_any (.slice aoQ Q.length caQ) Q (buI x) hBy.rok (by omega) w (hw.src (A := []) (r := rdR (.slice aoQ Q.length caQ) 22 Q.length (vcs rcV Q)) RdOf.rd' (by repeat (first | exact Take1.head | apply Take1.tail))) hw.left.here) rfl (fun _ => ⟨_, (by repeat (first | exact TakeL.nil | (apply TakeL.cons; · repeat (first | exact Take1.head | apply Take1.tail))))⟩) ?_ -- t63 hailer/hailerref36.Bucket
            rintro ⟨a63, c63⟩ -
            dsimp only [List.cons_append, List.nil_append]
            refine WD.one 8 (by kernel_rfl) ?_
            refine WO.callC (xs := [.tmp 63]) (cap := []) rfl .no rfl rfl en9 (by repeat (first | exact TakeL.nil | (apply TakeL.cons; · repeat (first | exact Take1.head | apply Take1.tail)))) (fun w hw => digestR_any (.slice a63 (buF Q (buI x)).length c63) (buF Q (buI x)) (fun q hq => hBy.rok q (buF_mem hq)) (Nat.le_trans (buF_len _ _) (by omega)) w (hw.src (A := []) (r := ownR (.slice a63 (buF Q (buI x)).length c63) 33 22 (buF Q (buI x)).length (vcs rcV (buF Q (buI x)))) RdOf.own (by repeat (first | exact Take1.head | apply Take1.tail))) hw.left.here) rfl (fun _ => ⟨_, (by repeat (first | exact TakeL.nil | (apply TakeL.cons; · repeat (first | exact Take1.head | apply Take1.tail))))⟩) ?_ -- t64 hailer/hailerref36.Digest
            rintro ⟨a64, c64⟩ -
            dsimp only [List.cons_append, List.nil_append]
            refine WD.one 9 (by kernel_rfl) ?_
            refine WO.y rfl rfl .no (Yl.toStr un23 un5 un9 rfl (show Reads _ _ (subS (.slice a64 (8 * 4) c64) 0 8 c64 1) 1 (digF (buF Q (buI x))).length (ints .u8 (digF (buF Q (buI x)))) by rw [digF_len]; exact Reads.of (r := rdR (subS (.slice a64 (8 * 4) c64) 0 8 c64 1) 1 8 (ints .u8 (digF (buF Q (buI x))))) RdOf.rd' (by repeat (first | exact Take1.head | apply Take1.tail)))) rfl ?_ -- t65
            refine WD.take 10 rfl (by kernel_rfl) (by kernel_rfl) (by kernel_rfl) rfl rfl (Yl.sNe rfl rfl) rfl ?_ -- t66
            refine WD.say (t := 66) (v' := .bool (wP P Q x)) rfl (by rw [strEq (digF_by _) (digF_by _)]; unfold wP; simp) ?_
            refine WD.done (by kernel_rfl) ?_
            exact ⟨rfl, (), trivial, (by repeat (first | exact Sub.nil | refine Sub.cons rfl ?_)), (by repeat (first | exact Sub.nil | refine Sub.cons rfl ?_)), _, (by repeat (first | exact TakeL.nil | (apply TakeL.cons; · repeat (first | exact Take1.head | apply Take1.tail))))⟩
          · refine WO.callC (xs := [.tmp 61, .tmp 62]) (cap := []) rfl .no rfl rfl en10 (by repeat (first | exact TakeL.nil | (apply TakeL.cons; · repeat (first | exact Take1.head | apply Take1.tail)))) (fun w hw => bucketR_any (.slice aoQ Q.length caQ) Q (buI x) hBy.rok (by omega) w (hw.src (A := []) (r := rdR (.slice aoQ Q.length caQ) 22 Q.length (vcs rcV Q)) RdOf.rd' (by repeat (first | exact Take1.head | apply Take1.tail))) hw.left.here) rfl (fun _ => ⟨_, (by repeat (first | exact TakeL.nil | (apply TakeL.cons; · repeat (first | exact Take1.head | apply Take1.tail))))⟩) ?_ -- t63 hailer/hailerref36.Bucket
            rintro ⟨a63, c63⟩ -
            dsimp only [List.cons_append, List.nil_append]
            refine WD.two 4 8 (by kernel_rfl) ?_ ?_
            · refine WO.y rfl rfl .no (Yl.toStr un23 un5 un9 rfl (show Reads _ _ (subS (.slice a59 (8 * 4) c59) 0 8 c59 1) 1 (digF (buF P (buI x))).length (ints .u8 (digF (buF P (buI x)))) by rw [digF_len]; exact Reads.of (r := rdR (subS (.slice a59 (8 * 4) c59) 0 8 c59 1) 1 8 (ints .u8 (digF (buF P (buI x))))) RdOf.rd' (by repeat (first | exact Take1.head | apply Take1.tail)))) rfl ?_ -- t60
              refine WD.one 8 (by kernel_rfl) ?_
              refine WO.callC (xs := [.tmp 63]) (cap := []) rfl .no rfl rfl en9 (by repeat (first | exact TakeL.nil | (apply TakeL.cons; · repeat (first | exact Take1.head | apply Take1.tail)))) (fun w hw => digestR_any (.slice a63 (buF Q (buI x)).length c63) (buF Q (buI x)) (fun q hq => hBy.rok q (buF_mem hq)) (Nat.le_trans (buF_len _ _) (by omega)) w (hw.src (A := []) (r := ownR (.slice a63 (buF Q (buI x)).length c63) 33 22 (buF Q (buI x)).length (vcs rcV (buF Q (buI x)))) RdOf.own (by repeat (first | exact Take1.head | apply Take1.tail))) hw.left.here) rfl (fun _ => ⟨_, (by repeat (first | exact TakeL.nil | (apply TakeL.cons; · repeat (first | exact Take1.head | apply Take1.tail))))⟩) ?_ -- t64 hailer/hailerref36.Digest
              rintro ⟨a64, c64⟩ -
              dsimp only [List.cons_append, List.nil_append]
              refine WD.one 9 (by kernel_rfl) ?_
              refine WO.y rfl rfl .no (Yl.toStr un23 un5 un9 rfl (show Reads _ _ (subS (.slice a64 (8 * 4) c64) 0 8 c64 1) 1 (digF (buF Q (buI x))).length (ints .u8 (digF (buF Q (buI x)))) by rw [digF_len]; exact Reads.of (r := rdR (subS (.slice a64 (8 * 4) c64) 0 8 c64 1) 1 8 (ints .u8 (digF (buF Q (buI x))))) RdOf.rd' (by repeat (first | exact Take1.head | apply Take1.tail)))) rfl ?_ -- t65
              refine WD.take 10 rfl (by kernel_rfl) (by kernel_rfl) (by kernel_rfl) rfl rfl (Yl.sNe rfl rfl) rfl ?_ -- t66
              refine WD.say (t := 66) (v' := .bool (wP P Q x)) rfl (by rw [strEq (digF_by _) (digF_by _)]; unfold wP; simp) ?_
              refine WD.done (by kernel_rfl) ?_
              exact ⟨rfl, (), trivial, (by repeat (first | exact Sub.nil | refine Sub.cons rfl ?_)), (by repeat (first | exact Sub.nil | refine Sub.cons rfl ?_)), _, (by repeat (first | exact TakeL.nil | (apply TakeL.cons; · repeat (first | exact Take1.head | apply Take1.tail))))⟩
            · refine WO.callC (xs := [.tmp 63]) (cap := []) rfl .no rfl rfl en9 (by repeat (first | exact TakeL.nil | (apply TakeL.cons; · repeat (first | exact Take1.head | apply Take1.tail)))) (fun w hw => digestR_any (.slice a63 (buF Q (buI x)).length c63) (buF Q (buI x)) (fun q hq => hBy.rok q (buF_mem hq)) (Nat.le_trans (buF_len _ _) (by omega)) w (hw.src (A := []) (r := ownR (.slice a63 (buF Q (buI x)).length c63) 33 22 (buF Q (buI x)).length (vcs rcV (buF Q (buI x)))) RdOf.own (by repeat (first | exact Take1.head | apply Take1.tail))) hw.left.here) rfl (fun _ => ⟨_, (by repeat (first | exact TakeL.nil | (apply TakeL.cons; · repeat (first | exact Take1.head | apply Take1.tail))))⟩) ?_ -- t64 hailer/hailerref36.Digest
              rintro ⟨a64, c64⟩ -
              dsimp only [List.cons_append, List.nil_append]
              refine WD.two 4 9 (by kernel_rfl) ?_ ?_
              · refine WO.y rfl rfl .no (Yl.toStr un23 un5 un9 rfl (show Reads _ _ (subS (.slice a59 (8 * 4) c59) 0 8 c59 1) 1 (digF (buF P (buI x))).length (ints .u8 (digF (buF P (buI x)))) by rw [digF_len]; exact Reads.of (r := rdR (subS (.slice a59 (8 * 4) c59) 0 8 c59 1) 1 8 (ints .u8 (digF (buF P (buI x))))) RdOf.rd' (by repeat (first | exact Take1.head | apply Take1.tail)))) rfl ?_ -- t60
                refine WD.one 9 (by kernel_rfl) ?_
                refine WO.y rfl rfl .no (Yl.toStr un23 un5 un9 rfl (show Reads _ _ (subS (.slice a64 (8 * 4) c64) 0 8 c64 1) 1 (digF (buF Q (buI x))).length (ints .u8 (digF (buF Q (buI x)))) by rw [digF_len]; exact Reads.of (r := rdR (subS (.slice a64 (8 * 4) c64) 0 8 c64 1) 1 8 (ints .u8 (digF (buF Q (buI x))))) RdOf.rd' (by repeat (first | exact Take1.head | apply Take1.tail)))) rfl ?_ -- t65
                refine WD.take 10 rfl (by kernel_rfl) (by kernel_rfl) (by kernel_rfl) rfl rfl (Yl.sNe rfl rfl) rfl ?_ -- t66
                refine WD.say (t := 66) (v' := .bool (wP P Q x)) rfl (by rw [strEq (digF_by _) (digF_by _)]; unfold wP; simp) ?_
                refine WD.done (by kernel_rfl) ?_
                exact ⟨rfl, (), trivial, (by repeat (first | exact Sub.nil | refine Sub.cons rfl ?_)), (by repeat (first | exact Sub.nil | refine Sub.cons rfl ?_)), _, (by repeat (first | exact TakeL.nil | (apply TakeL.cons; · repeat (first | exact Take1.head | apply Take1.tail))))⟩
              · refine WO.y rfl rfl .no (Yl.toStr un23 un5 un9 rfl (show Reads _ _ (subS (.slice a64 (8 * 4) c64) 0 8 c64 1) 1 (digF (buF Q (buI x))).length (ints .u8 (digF (buF Q (buI x)))) by rw [digF_len]; exact Reads.of (r := rdR (subS (.slice a64 (8 * 4) c64) 0 8 c64 1) 1 8 (ints .u8 (digF (buF Q (buI x))))) RdOf.rd' (by repeat (first | exact Take1.head | apply Take1.tail)))) rfl ?_ -- t65
                refine WD.one 4 (by kernel_rfl) ?_
                refine WO.y rfl rfl .no (Yl.toStr un23 un5 un9 rfl (show Reads _ _ (subS (.slice a59 (8 * 4) c59) 0 8 c59 1) 1 (digF (buF P (buI x))).length (ints .u8 (digF (buF P (buI x)))) by rw [digF_len]; exact Reads.of (r := rdR (subS (.slice a59 (8 * 4) c59) 0 8 c59 1) 1 8 (ints .u8 (digF (buF P (buI x))))) RdOf.rd' (by repeat (first | exact Take1.head | apply Take1.tail)))) rfl ?_ -- t60
                refine WD.take 10 rfl (by kernel_rfl) (by kernel_rfl) (by kernel_rfl) rfl rfl (Yl.sNe rfl rfl) rfl ?_ -- t66
                refine WD.say (t := 66) (v' := .bool (wP P Q x)) rfl (by rw [strEq (digF_by _) (digF_by _)]; unfold wP; simp) ?_
                refine WD.done (by kernel_rfl) ?_
                exact ⟨rfl, (), trivial, (by repeat (first | exact Sub.nil | refine Sub.cons rfl ?_)), (by repeat (first | exact Sub.nil | refine Sub.cons rfl ?_)), _, (by repeat (first | exact TakeL.nil | (apply TakeL.cons; · repeat (first | exact Take1.head | apply Take1.tail))))⟩
        · rintro ⟨⟩ -
          refine WC.cond rfl (fun g66 => ?_) (fun g66 => ?_)
          · have hp : wP P Q x = true := by simpa using g66
            rw [if_pos hp] at hnx
            have hnl : (wN P Q (i + 1)).length = (wN P Q i).length + 43 := by rw [hnx, List.length_append, hrl]
            refine WC.region ?_
            refine WL.y (Yl.move rfl) rfl ?_ -- t67
            refine WL.y (Yl.loadN ag33 rfl (by repeat (first | exact Take1.head | apply Take1.tail)) (leB (by rw [h22]; omega)) (Rc.call hxo.len)) rfl ?_ -- t68
            refine WL.callC (xs := [.tmp 68]) (cap := []) rfl rfl en11 (by repeat (first | exact TakeL.nil | (apply TakeL.cons; · repeat (first | exact Take1.head | apply Take1.tail)))) (fun w hw => rbytes_any x hxo w hw.left.here) rfl ?_ -- t69 hailer/hailerref11.Bytes
            rintro ⟨a69, c69⟩ -
            dsimp only [List.cons_append, List.nil_append]
            refine WL.to (To.append sl23 rfl rfl (by repeat (first | exact Take1.head | apply Take1.tail)) (Reads.of (RdOf.own (v := .slice a69 43 c69)) (by repeat (first | exact Take1.head | apply Take1.tail))) (ints_one _ _) (show _ = (wN P Q (i + 1)).length by rw [hnl]) (show _ = ints .u8 (wN P Q (i + 1)) by rw [hnx]; simp [ints]) (by unfold maxLen; omega) (by omega)) rfl ?_ -- t70
            rintro ⟨⟨ao70, c70⟩, hc70⟩
            dsimp only at hc70 ⊢
            refine WL.y (Yl.assign rfl) rfl ?_ -- t11
            refine WL.nil ?_
            refine WC.region ?_
            refine WL.y (Yl.add rfl rfl (IntWalk.i64_in _ (by omega))) rfl ?_ -- t71
            refine WL.y (Yl.move rfl) rfl ?_ -- t47
            refine WL.nil ?_
            exact ⟨rfl, (i + 1, ao70, c70), by dsimp only; omega, by dsimp only; omega, (by repeat (first | exact Sub.nil | refine Sub.cons rfl ?_)), _, (by repeat (first | exact TakeL.nil | (apply TakeL.cons; · repeat (first | exact Take1.head | apply Take1.tail))))⟩
          · refine WC.skip ?_
            refine WC.region ?_
            refine WL.y (Yl.add rfl rfl (IntWalk.i64_in _ (by omega))) rfl ?_ -- t71
            refine WL.y (Yl.move rfl) rfl ?_ -- t47
            refine WL.nil ?_
            have hp : wP P Q x = false := by simpa using g66
            rw [hp, if_neg (by simp), List.append_nil] at hnx
            exact ⟨rfl, (i + 1, aoW, caW), by dsimp only; omega, by dsimp only; omega, by dsimp only; rw [hnx]; exact (by repeat (first | exact Sub.nil | refine Sub.cons rfl ?_)), _, by dsimp only; rw [hnx]; exact (by repeat (first | exact TakeL.nil | (apply TakeL.cons; · repeat (first | exact Take1.head | apply Take1.tail))))⟩
      · refine WC.exit ?_
        refine WC.seq ?_
        refine WC.seq ?_
        have hil : i = P.length := by omega
        subst hil
        have hWe : wN P Q P.length = allB (offL P (digsF Q)) := by unfold wN; rw [List.take_length, off_wP hBx.rok]
        obtain ⟨W, hW⟩ : ∃ l, allB (offL P (digsF Q)) = l := ⟨_, rfl⟩
        have hWb : Bytes W := by rw [← hW]; exact allB_bytes (fun q hq => hBx.rok q (List.mem_filter.1 hq).1)
        rw [hWe, hW] at hwl ⊢
        refine WC.drawAny (Hs := [blkR bb 64 [.slice aoB Q.length caB], ownR (.slice aoB Q.length caB) 33 22 Q.length (vcs rcV Q), ownR (.slice aoW W.length caW) 5 1 W.length (ints .u8 W)]) mixed (by kernel_rfl) ⟨_, (by repeat (first | exact TakeL.nil | (apply TakeL.cons; · repeat (first | exact Take1.head | apply Take1.tail))))⟩ ?_
        refine WD.take 0 rfl (by kernel_rfl) (by kernel_rfl) (by kernel_rfl) rfl rfl (Yl.move rfl) rfl ?_ -- t72
        refine WD.take 1 rfl (by kernel_rfl) (by kernel_rfl) (by kernel_rfl) rfl rfl (Yl.move rfl) rfl ?_ -- t73
        refine WD.take 5 rfl (by kernel_rfl) (by kernel_rfl) (by kernel_rfl) rfl rfl (Yl.move rfl) rfl ?_ -- t77
        refine WD.take 6 rfl (by kernel_rfl) (by kernel_rfl) (by kernel_rfl) rfl rfl (Yl.toStr un23 un5 un9 rfl (Reads.of (r := ownR (.slice aoW W.length caW) 5 1 W.length (ints .u8 W)) RdOf.own (by repeat (first | exact Take1.head | apply Take1.tail)))) rfl ?_ -- t78
        refine WD.one 2 (by kernel_rfl) ?_
        refine WO.callC (xs := [.tmp 73]) (cap := []) rfl .no rfl rfl en13 (by repeat (first | exact TakeL.nil | (apply TakeL.cons; · repeat (first | exact Take1.head | apply Take1.tail)))) (fun w hw => digestsK_any bb aoB caB Q hBy.bk (by omega) w hw.left.here) rfl (fun _ => ⟨_, (by repeat (first | exact TakeL.nil | (apply TakeL.cons; · repeat (first | exact Take1.head | apply Take1.tail))))⟩) ?_ -- t74 (*hailer/merge.Book).Digests
        rintro ⟨⟩ -
        dsimp only [bkR, List.cons_append, List.nil_append]
        refine WD.one 3 (by kernel_rfl) ?_
        refine WO.callC (xs := [.tmp 72, .tmp 74]) (cap := []) rfl .no rfl rfl en12 (by repeat (first | exact TakeL.nil | (apply TakeL.cons; · repeat (first | exact Take1.head | apply Take1.tail)))) (fun w hw => offerP_any A (digsF Q) (digsF_len _) (digsF_by _) (by rw [lA]; exact hBx.bk) (by rw [lA]; omega) w hw.left.here) rfl (fun _ => ⟨_, (by repeat (first | exact TakeL.nil | (apply TakeL.cons; · repeat (first | exact Take1.head | apply Take1.tail))))⟩) ?_ -- t75 (*hailer/merge.Book).Offer
        rintro ⟨a75, c75⟩ -
        rw [lA, hW]
        dsimp only [List.cons_append, List.nil_append]
        refine WD.one 4 (by kernel_rfl) ?_
        refine WO.y rfl rfl .no (Yl.toStr un23 un5 un9 rfl (Reads.of (RdOf.own (v := .slice a75 W.length c75)) (by repeat (first | exact Take1.head | apply Take1.tail)))) rfl ?_ -- t76
        refine WD.take 7 rfl (by kernel_rfl) (by kernel_rfl) (by kernel_rfl) rfl rfl (Yl.sNe rfl rfl) rfl ?_ -- t79
        refine WD.know (t := 79) (b' := false) rfl (by rw [strEq hWb hWb]; simp) ?_
        refine WD.done (by kernel_rfl) ?_
        refine WC.condF rfl (by first | rfl | (simp; done) | (simp; omega)) ?_
        refine WC.skip ?_
        refine WC.seq ?_
        refine WC.region ?_
        refine WL.y (Yl.move rfl) rfl ?_ -- t80
        refine WL.callC (xs := [.tmp 80]) (cap := []) rfl rfl en14 (by repeat (first | exact TakeL.nil | (apply TakeL.cons; · repeat (first | exact Take1.head | apply Take1.tail)))) (fun w hw => rall_any bs (.slice el bs.length fl) hB (by omega) w (hw.src (A := []) (r := rdR (.slice el bs.length fl) 1 bs.length (ints .u8 bs)) RdOf.rd' (by repeat (first | exact Take1.head | apply Take1.tail))) hw.left.here) rfl ?_ -- t81 hailer/hailerref11.All
        rintro ⟨a81, c81⟩ -
        rw [← recsOf_cells]
        dsimp only [List.cons_append, List.nil_append]
        refine WL.view (fun w h => h.readOnly (v := .slice a81 (recN bs) c81) (by repeat (first | exact Take1.head | apply Take1.tail))) ?_
        refine WL.y (Yl.assign rfl) rfl ?_ -- t15
        refine WL.nil ?_
        refine WC.seq ?_
        obtain ⟨rs, hrs⟩ : ∃ rs, recsOf bs (recN bs) = rs := ⟨_, rfl⟩
        have hro : ROk rs := by rw [← hrs]; exact recsOf_ok hB (Nat.le_refl _)
        have hrl : rs.length = recN bs := by rw [← hrs]; exact recsOf_len bs _
        rw [hrs, ← hrl]
        refine WC.region ?_
        refine WL.y (Yl.move rfl) rfl ?_ -- t83
        refine WL.y (Yl.move rfl) rfl ?_ -- t84
        refine WL.callC (xs := [.tmp 83, .tmp 84]) (cap := []) rfl rfl en15 (by repeat (first | exact TakeL.nil | (apply TakeL.cons; · repeat (first | exact Take1.head | apply Take1.tail)))) (fun w hw => accept_any bb aoB caB Q bs (.slice el bs.length fl) hB (by omega) hBy (by omega) w hw.left.here) rfl ?_ -- t85 (*hailer/merge.Book).Accept
        rintro ⟨aoB2, caB2⟩ -
        dsimp only [bkR, List.cons_append, List.nil_append]
        refine WL.y (Yl.move rfl) rfl ?_ -- t82
        refine WL.y (Yl.extract rfl rfl) rfl ?_ -- t86
        refine WL.y (Yl.extract rfl rfl) rfl ?_ -- t87
        refine WL.y (Yl.assign rfl) rfl ?_ -- t16
        refine WL.y (Yl.assign rfl) rfl ?_ -- t17
        refine WL.nil ?_
        refine WC.seq ?_
        refine WC.seq ?_
        refine WC.region ?_
        refine WL.y (Yl.move rfl) rfl ?_ -- t88
        refine WL.y (Yl.len un22 rfl) rfl ?_ -- t89
        refine WL.y (Yl.mul rfl rfl (IntWalk.i64_in _ (by omega))) rfl ?_ -- t90
        refine WL.y (Yl.move rfl) rfl ?_ -- t91
        refine WL.y (Yl.len un23 rfl) rfl ?_ -- t92
        refine WL.y (Yl.neq rfl rfl) rfl ?_ -- t93
        refine WL.nil ?_
        refine WC.cond rfl (fun g93 => ?_) (fun g93 => ?_)
        · refine WC.seq ?_
          have hn : allRec bs = false := by unfold allRec; exact decide_eq_false (by have := g93; simp at this; omega)
          have hac : accF Q bs = (Q, 0) := by unfold accF; rw [hn]; rfl
          rw [hac, hn]
          dsimp only
          refine WC.view (fun w h => OK.bunO2 (r := blkR bb 64 [.slice aoB2 Q.length caB2]) (s := ownR (.slice aoB2 Q.length caB2) 33 22 Q.length (vcs rcV Q)) h (by repeat (first | exact TakeL.nil | (apply TakeL.cons; · repeat (first | exact Take1.head | apply Take1.tail))))) ?_
          obtain ⟨B, hBB⟩ : ∃ B : Bt, B = ⟨bb, aoB2, caB2, Q⟩ := ⟨_, rfl⟩
          rw [show [blkR bb 64 [.slice aoB2 Q.length caB2], ownR (.slice aoB2 Q.length caB2) 33 22 Q.length (vcs rcV Q)] = btR (some B) by rw [hBB]; rfl]
          have lB : B.l = Q := by rw [hBB]
          have bB : B.b = bb := by rw [hBB]
          rw [← bB]
          refine WC.region ?_
          refine WL.y (Yl.move rfl) rfl ?_ -- t94
          refine WL.y (Yl.eql rfl rfl) rfl ?_ -- t95
          refine WL.know (t := 95) (b' := true) rfl (by first | rfl | (simp; done) | (simp; omega)) ?_
          refine WL.y (Yl.move rfl) rfl ?_ -- t96
          refine WL.on rfl rfl ?_
          refine WL.y (Yl.move rfl) rfl ?_ -- t97
          refine WL.on rfl rfl ?_
          refine WL.y (Yl.eql rfl rfl) rfl ?_ -- t98
          refine WL.know (t := 98) (b' := true) rfl (by first | rfl | (simp; done) | (simp; omega)) ?_
          refine WL.y (Yl.pickT rfl rfl) rfl ?_ -- t99
          refine WL.y (Yl.move rfl) rfl ?_ -- t100
          refine WL.on rfl rfl ?_
          refine WL.y (Yl.move rfl) rfl ?_ -- t101
          refine WL.on rfl rfl ?_
          refine WL.callC (xs := [.tmp 101]) (cap := []) rfl rfl en8 (by repeat (first | exact TakeL.nil | (apply TakeL.cons; · repeat (first | exact Take1.head | apply Take1.tail)))) (fun w hw => allP_any (some B) (by dsimp only [btL]; rw [lB]; exact hBy.rok) (by dsimp only [btL]; rw [lB]; omega) w hw.left.here) rfl ?_ -- t102 (*hailer/merge.Book).All
          rintro ⟨y102, own102⟩ -
          dsimp only [btL, List.cons_append, List.nil_append]
          rw [lB]
          refine WL.on rfl rfl ?_
          refine WL.callC (xs := [.tmp 102]) (cap := []) rfl rfl en7 (by repeat (first | exact TakeL.nil | (apply TakeL.cons; · repeat (first | exact Take1.head | apply Take1.tail)))) (fun w hw => col_any 52 [.pointer (some ⟨y102, 0, none⟩)] own102 Q hBy.rok (by omega) en52 w hw.left.here) rfl ?_ -- t103 slices.Collect[hailer/api.Record]
          rintro ⟨a103, c103⟩ -
          dsimp only [List.cons_append, List.nil_append]
          refine WL.on rfl rfl ?_
          refine WL.y (Yl.move rfl) rfl ?_ -- t104
          refine WL.on rfl rfl ?_
          refine WL.callC (xs := [.tmp 103, .tmp 104]) (cap := []) rfl rfl en16 (by repeat (first | exact TakeL.nil | (apply TakeL.cons; · repeat (first | exact Take1.head | apply Take1.tail)))) (fun w hw => equalR_any (.slice a103 Q.length c103) (.slice aoQ Q.length caQ) Q Q hBy.rok hBy.rok (by omega) w (hw.src (A := []) (r := ownR (.slice a103 Q.length c103) 33 22 Q.length (vcs rcV Q)) RdOf.own (by repeat (first | exact Take1.head | apply Take1.tail))) (hw.src (A := []) (r := rdR (.slice aoQ Q.length caQ) 22 Q.length (vcs rcV Q)) RdOf.rd' (by repeat (first | exact Take1.head | apply Take1.tail))) hw.left.here) rfl ?_ -- t105 slices.Equal[[]hailer/api.Record,hailer/api.Record]
          rintro ⟨⟩ -
          refine WL.know (t := 105) (b' := true) rfl (by first | rfl | (simp; done) | (simp; omega)) ?_
          refine WL.y (Yl.pickT rfl rfl) rfl ?_ -- t106
          refine WL.y (Yl.assign rfl) rfl ?_ -- t6
          refine WL.nil ?_
          refine WC.ret ?_
          repeat (first | (with_reducible refine peelT ?_) | (with_reducible refine peelB ?_) | (with_reducible refine peelTX ?_) | (with_reducible refine peelBX ?_) | (with_reducible refine peelBN ?_) | (with_reducible refine peelBO rfl ?_))
          exact ret1 (.inr rfl) Tryz.results3 rfl fun w' h => ⟨(), trivial, rfl, h.sub (by repeat (first | exact TakeL.nil | (apply TakeL.cons; · repeat (first | exact Take1.head | apply Take1.tail))))⟩
        · refine WC.skip ?_
          refine WC.seq ?_
          have hn : allRec bs = true := by unfold allRec; exact decide_eq_true (by have := g93; simp at this; omega)
          have hac : accF Q bs = joinF Q rs := by unfold accF; rw [hn, hrs]; rfl
          rw [hac, hn]
          have hJb : Book (joinF Q rs).1 := hBy.join hro
          obtain ⟨hJl, hJn⟩ := join_len rs Q
          have hjN : jN Q rs rs.length = joinF Q rs := by unfold jN; rw [List.take_length]
          refine WC.region ?_
          refine WL.y (Yl.assign rfl) rfl ?_ -- t18
          refine WL.nil ?_
          refine WC.seq ?_
          refine WC.seq ?_
          refine WC.region ?_
          refine WL.y (Yl.move rfl) rfl ?_ -- t107
          refine WL.y (Yl.len un22 rfl) rfl ?_ -- t108
          refine WL.y (Yl.move rfl) rfl ?_ -- t109
          refine WL.nil ?_
          refine WC.block ?_
          refine WC.loop (α := Nat × (Option Addr × Nat)) (fun s => [(8, .pointer (some ⟨bb, 0, none⟩)), (10, .slice s.2.1 (jN Q rs s.1).1.length s.2.2), (16, .int .i64 ((joinF Q rs).2 : Int)), (17, .int .i64 0), (18, .int .i64 ((jN Q rs s.1).2 : Int)), (107, .slice a81 rs.length c81), (108, .int .i64 (rs.length : Int)), (109, .int .i64 (s.1 : Int))]) (fun s => [rdR (.slice a81 rs.length c81) 22 rs.length (vcs rcV rs), rdR (.slice s.2.1 (jN Q rs s.1).1.length s.2.2) 22 (jN Q rs s.1).1.length (vcs rcV (jN Q rs s.1).1), blkR bb 64 [.slice aoB2 (joinF Q rs).1.length caB2], ownR (.slice aoB2 (joinF Q rs).1.length caB2) 33 22 (joinF Q rs).1.length (vcs rcV (joinF Q rs).1)]) (fun s => s.1 ≤ rs.length) (fun s => rs.length - s.1) (0, (aoQ, caQ)) (Nat.zero_le _) ⟨(by repeat (first | exact Sub.nil | refine Sub.cons rfl ?_)), _, (by repeat (first | exact TakeL.nil | (apply TakeL.cons; · repeat (first | exact Take1.head | apply Take1.tail))))⟩ ?_
          rintro ⟨k, aoq, caq⟩ hk
          dsimp only at hk ⊢
          have hjb : Book (jN Q rs k).1 := hBy.join fun r hr => hro r (List.mem_of_mem_take hr)
          obtain ⟨hjl, hjn⟩ : (jN Q rs k).1.length ≤ Q.length + rs.length ∧ (jN Q rs k).2 ≤ rs.length := by
            have := join_len (rs.take k) Q
            rw [List.length_take] at this
            unfold jN
            omega
          refine WC.seq ?_
          refine WC.region ?_
          refine WL.y (Yl.lss rfl rfl) rfl ?_ -- t110
          refine WL.nil ?_
          refine WC.seq ?_
          refine WC.condD rfl (fun g110 => ?_) (fun g110 => ?_)
          · refine WC.skip ?_
            refine WC.seq ?_
            refine WC.block ?_
            refine WC.seq ?_
            refine WC.region ?_
            have hkl : k < rs.length := by omega
            obtain ⟨x, hxx⟩ : ∃ x, rs[k]? = some x := ⟨_, List.getElem?_eq_getElem hkl⟩
            have hxo := hro.get hxx
            have h22 := Rc.cells_len hxo.len
            have hnx := jN_next (Q := Q) hxx
            refine WL.y (Yl.index un22 sz33 rfl rfl (Reads.of (r := rdR (.slice a81 rs.length c81) 22 rs.length (vcs rcV rs)) RdOf.rd' (by repeat (first | exact Take1.head | apply Take1.tail))) rfl (by omega)) rfl ?_ -- t111
            refine WL.y (Yl.loadV (j := k) (u := x) vtR hro rfl (Reads.of (r := rdR (.slice a81 rs.length c81) 22 rs.length (vcs rcV rs)) RdOf.rd' (by repeat (first | exact Take1.head | apply Take1.tail))) rfl hxx) rfl ?_
            refine WL.to (To.alloc (cs := Rc.zero.cells) zr33 rfl) rfl ?_ -- t20
            intro b20
            refine WL.sto (Sto.agg sz33 rfl rfl (by repeat (first | exact Take1.head | apply Take1.tail)) (Rc.ones _) h22 (by rfl) (Rc.all (r := Rc.zero) rfl x.cells h22)) (fun _ h => nomatch h) ?_ -- st 2
            refine WL.nil ?_
            refine WC.seq ?_
            refine WC.region ?_
            refine WL.y (Yl.move rfl) rfl ?_ -- t114
            refine WL.y (Yl.loadN ag33 rfl (by repeat (first | exact Take1.head | apply Take1.tail)) (leB (by rw [h22]; omega)) (Rc.call hxo.len)) rfl ?_ -- t115
            refine WL.callC (xs := [.tmp 114, .tmp 115]) (cap := []) rfl rfl en17 (by repeat (first | exact TakeL.nil | (apply TakeL.cons; · repeat (first | exact Take1.head | apply Take1.tail)))) (fun w hw => takeR_any aoq caq (jN Q rs k).1 x hjb hxo (by omega) w hw.left.here) rfl ?_ -- t116 hailer/hailerref36.Take
            rintro ⟨a116, c116⟩ -
            rw [show (takeF (jN Q rs k).1 x).1 = (jN Q rs (k + 1)).1 by rw [hnx]]
            dsimp only [List.cons_append, List.nil_append]
            refine WL.y (Yl.move rfl) rfl ?_ -- t113
            refine WL.y (Yl.extract rfl rfl) rfl ?_ -- t117
            refine WL.y (Yl.extract rfl rfl) rfl ?_ -- t118
            refine WL.y (Yl.extract rfl rfl) rfl ?_ -- t119
            refine WL.y (Yl.assign rfl) rfl ?_ -- t21
            refine WL.y (Yl.assign rfl) rfl ?_ -- t22
            refine WL.y (Yl.assign rfl) rfl ?_ -- t23
            refine WL.nil ?_
            refine WC.seq ?_
            refine WC.region ?_
            refine WL.y (Yl.move rfl) rfl ?_ -- t120
            refine WL.y (Yl.assign rfl) rfl ?_ -- t10
            refine WL.nil ?_
            refine WC.seq ?_
            refine WC.region ?_
            refine WL.y (Yl.move rfl) rfl ?_ -- t121
            refine WL.nil ?_
            refine WC.cond rfl (fun g121 => ?_) (fun g121 => ?_)
            · refine WC.region ?_
              refine WL.y (Yl.move rfl) rfl ?_ -- t122
              refine WL.y (Yl.add rfl rfl (IntWalk.i64_in _ (by omega))) rfl ?_ -- t123
              refine WL.y (Yl.assign rfl) rfl ?_ -- t18
              refine WL.nil ?_
              refine WC.region ?_
              refine WL.y (Yl.add rfl rfl (IntWalk.i64_in _ (by omega))) rfl ?_ -- t124
              refine WL.y (Yl.move rfl) rfl ?_ -- t109
              refine WL.nil ?_
              have h2 : (jN Q rs (k + 1)).2 = (jN Q rs k).2 + 1 := by rw [hnx, show (takeF (jN Q rs k).1 x).2 = true by simpa using g121]; rfl
              exact ⟨rfl, (k + 1, a116, c116), by dsimp only; omega, by dsimp only; omega, by dsimp only; rw [h2]; exact (by repeat (first | exact Sub.nil | refine Sub.cons rfl ?_)), _, (by repeat (first | exact TakeL.nil | (apply TakeL.cons; · repeat (first | exact Take1.head | apply Take1.tail))))⟩
            · refine WC.skip ?_
              refine WC.region ?_
              refine WL.y (Yl.add rfl rfl (IntWalk.i64_in _ (by omega))) rfl ?_ -- t124
              refine WL.y (Yl.move rfl) rfl ?_ -- t109
              refine WL.nil ?_
              have h2 : (jN Q rs (k + 1)).2 = (jN Q rs k).2 := by rw [hnx, show (takeF (jN Q rs k).1 x).2 = false by simpa using g121]; rfl
              exact ⟨rfl, (k + 1, a116, c116), by dsimp only; omega, by dsimp only; omega, by dsimp only; rw [h2]; exact (by repeat (first | exact Sub.nil | refine Sub.cons rfl ?_)), _, (by repeat (first | exact TakeL.nil | (apply TakeL.cons; · repeat (first | exact Take1.head | apply Take1.tail))))⟩
          · refine WC.exit ?_
            refine WC.seq ?_
            have hkl : k = rs.length := by omega
            subst hkl
            rw [hjN]
            obtain ⟨J, hJ⟩ : ∃ J, joinF Q rs = J := ⟨_, rfl⟩
            rw [hJ] at hJb hJl hJn ⊢
            obtain ⟨L, m⟩ := J
            dsimp only at hJb hJl hJn ⊢
            refine WC.view (fun w h => OK.bunO2 (r := blkR bb 64 [.slice aoB2 L.length caB2]) (s := ownR (.slice aoB2 L.length caB2) 33 22 L.length (vcs rcV L)) h (by repeat (first | exact TakeL.nil | (apply TakeL.cons; · repeat (first | exact Take1.head | apply Take1.tail))))) ?_
            obtain ⟨B, hBB⟩ : ∃ B : Bt, B = ⟨bb, aoB2, caB2, L⟩ := ⟨_, rfl⟩
            rw [show [blkR bb 64 [.slice aoB2 L.length caB2], ownR (.slice aoB2 L.length caB2) 33 22 L.length (vcs rcV L)] = btR (some B) by rw [hBB]; rfl]
            have lB : B.l = L := by rw [hBB]
            have bB : B.b = bb := by rw [hBB]
            rw [← bB]
            refine WC.region ?_
            refine WL.y (Yl.move rfl) rfl ?_ -- t125
            refine WL.y (Yl.move rfl) rfl ?_ -- t126
            refine WL.y (Yl.eql rfl rfl) rfl ?_ -- t127
            refine WL.know (t := 127) (b' := true) rfl (by first | rfl | (simp; done) | (simp; omega)) ?_
            refine WL.y (Yl.move rfl) rfl ?_ -- t128
            refine WL.on rfl rfl ?_
            refine WL.y (Yl.move rfl) rfl ?_ -- t129
            refine WL.on rfl rfl ?_
            refine WL.y (Yl.eql rfl rfl) rfl ?_ -- t130
            refine WL.know (t := 130) (b' := true) rfl (by first | rfl | (simp; done) | (simp; omega)) ?_
            refine WL.y (Yl.pickT rfl rfl) rfl ?_ -- t131
            refine WL.y (Yl.move rfl) rfl ?_ -- t132
            refine WL.on rfl rfl ?_
            refine WL.y (Yl.move rfl) rfl ?_ -- t133
            refine WL.on rfl rfl ?_
            refine WL.callC (xs := [.tmp 133]) (cap := []) rfl rfl en8 (by repeat (first | exact TakeL.nil | (apply TakeL.cons; · repeat (first | exact Take1.head | apply Take1.tail)))) (fun w hw => allP_any (some B) (by dsimp only [btL]; rw [lB]; exact hJb.rok) (by dsimp only [btL]; rw [lB]; omega) w hw.left.here) rfl ?_ -- t134 (*hailer/merge.Book).All
            rintro ⟨y134, own134⟩ -
            dsimp only [btL, List.cons_append, List.nil_append]
            rw [lB]
            refine WL.on rfl rfl ?_
            refine WL.callC (xs := [.tmp 134]) (cap := []) rfl rfl en7 (by repeat (first | exact TakeL.nil | (apply TakeL.cons; · repeat (first | exact Take1.head | apply Take1.tail)))) (fun w hw => col_any 52 [.pointer (some ⟨y134, 0, none⟩)] own134 L hJb.rok (by omega) en52 w hw.left.here) rfl ?_ -- t135 slices.Collect[hailer/api.Record]
            rintro ⟨a135, c135⟩ -
            dsimp only [List.cons_append, List.nil_append]
            refine WL.on rfl rfl ?_
            refine WL.y (Yl.move rfl) rfl ?_ -- t136
            refine WL.on rfl rfl ?_
            refine WL.callC (xs := [.tmp 135, .tmp 136]) (cap := []) rfl rfl en16 (by repeat (first | exact TakeL.nil | (apply TakeL.cons; · repeat (first | exact Take1.head | apply Take1.tail)))) (fun w hw => equalR_any (.slice a135 L.length c135) (.slice aoq L.length caq) L L hJb.rok hJb.rok (by omega) w (hw.src (A := []) (r := ownR (.slice a135 L.length c135) 33 22 L.length (vcs rcV L)) RdOf.own (by repeat (first | exact Take1.head | apply Take1.tail))) (hw.src (A := []) (r := rdR (.slice aoq L.length caq) 22 L.length (vcs rcV L)) RdOf.rd' (by repeat (first | exact Take1.head | apply Take1.tail))) hw.left.here) rfl ?_ -- t137 slices.Equal[[]hailer/api.Record,hailer/api.Record]
            rintro ⟨⟩ -
            refine WL.know (t := 137) (b' := true) rfl (by first | rfl | (simp; done) | (simp; omega)) ?_
            refine WL.y (Yl.pickT rfl rfl) rfl ?_ -- t138
            refine WL.y (Yl.assign rfl) rfl ?_ -- t6
            refine WL.nil ?_
            refine WC.ret ?_
            repeat (first | (with_reducible refine peelT ?_) | (with_reducible refine peelB ?_) | (with_reducible refine peelTX ?_) | (with_reducible refine peelBX ?_) | (with_reducible refine peelBN ?_) | (with_reducible refine peelBO rfl ?_))
            exact ret1 (.inr rfl) Tryz.results3 rfl fun w' h => ⟨(), trivial, rfl, h.sub (by repeat (first | exact TakeL.nil | (apply TakeL.cons; · repeat (first | exact Take1.head | apply Take1.tail))))⟩
end Go.Proofs.YtmcdbjbkkejbbaaGreat
