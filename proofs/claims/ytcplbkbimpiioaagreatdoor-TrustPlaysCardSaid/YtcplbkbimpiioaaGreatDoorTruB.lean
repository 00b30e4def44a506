/- Keys: their order, sorting of a few, Clone: the walks. -/
import Derived.Test.YtcplbkbimpiioaaGreatDoorTruP
import Derived.Test.YtcplbkbimpiioaaGreatDoorFacts
import Derived.Test.YtcplbkbimpiioaaGreatDoorLibH
import Derived.Test.YtcplbkbimpiioaaGreatDoorLibI
import Derived.Test.YtcplbkbimpiioaaGreatDoorLibO
import Derived.Test.YtcplbkbimpiioaaGreatDoorLibM
namespace Go.Proofs.YtcplbkbimpiioaaGreatDoor
open Go Go.RowKit Go.Sort
theorem vtK : VT Tryz.prog 32 32 (fun _ : Ky => True) kyV := .agg (cel := Ky.cells) ag32 (by kernel_rfl) (by decide) (fun _ => rfl) (fun k _ => k.clen) Ky.ones
theorem ext_cmp {xs ys : List Int} {u v : Value} {w : World} (hx : Rd w 1 u xs.length (ints .u8 xs)) (hy : Rd w 1 v ys.length (ints .u8 ys)) (h1 : Bytes xs) (h2 : Bytes ys) : (callFunc 111 #[u, v]).run Tryz.prog w = .ok (.value (.int .i64 (lexF xs ys))) w := by
  rw [run_callFunc_extern (e := Extern.BytealgCompare.compare) Tryz.func111 (by kernel_rfl) (by kernel_rfl) (by kernel_rfl) (by kernel_rfl), run_cmpX hx hy h1 h2]
  rfl
theorem cmpB_any (xs ys : List Int) (u v : Value) (h1 : Bytes xs) (h2 : Bytes ys) (w : World) (hx : RdS w (fpL []) u 1 xs.length (ints .u8 xs)) (hy : RdS w (fpL []) v 1 ys.length (ints .u8 ys)) (hw : OK w (fpL []) [] w) :
    Fn Tryz.prog 83 [u, v] [] w (fun _ : Unit => True) (fun _ => .int .i64 (lexF xs ys)) (fun _ => []) := by
  refine enterF Tryz.func83 rfl Tryz.ntmps83 rfl hw ?_
  refine WC.seq ?_
  refine WC.region ?_
  refine WL.y (Yl.assign rfl) rfl ?_
  refine WL.nil ?_
  refine WC.seq ?_
  refine WC.region ?_
  refine WL.y (Yl.move rfl) rfl ?_
  refine WL.y (Yl.move rfl) rfl ?_
  refine WL.y (Yl.callExt (xs := [.tmp 5, .tmp 6]) rfl rfl (fun w hw => ext_cmp ((Reads.s hx) w hw) ((Reads.s hy) w hw) h1 h2)) rfl ?_
  refine WL.y (Yl.assign rfl) rfl ?_
  refine WL.nil ?_
  refine WC.ret ?_
  repeat (with_reducible (first | refine peelT ?_ | refine peelB ?_ | refine peelTX ?_ | refine peelBX ?_ | refine peelBN ?_ | refine peelBO rfl ?_))
  exact ret1 (.inr rfl) Tryz.results83 rfl fun w' h => ⟨(), trivial, rfl, h.sub (by repeat' constructor)⟩
theorem rdKy {b : Nat} (k : Ky) : RdOf (blkR b 32 k.cells) (.slice (some ⟨b, 0, none⟩) 32 32) 1 k.b.length (ints .u8 k.b) := by
  rw [k.len]
  exact RdOf.blk (Nat.le_refl _) (by unfold maxLen; omega) (by rw [Ky.clen]; omega) (by rw [List.drop_zero, List.take_of_length_le (by rw [Ky.clen]; omega)]; rfl)
theorem order_any (p q : Ky) (w : World) (hw : OK w (fpL []) [] w) : Fn Tryz.prog 61 [kyV p, kyV q] [] w (fun _ : Unit => True) (fun _ => .int .i64 (lexF p.b q.b)) (fun _ => []) := by
  unfold kyV
  refine enterF Tryz.func61 rfl Tryz.ntmps61 rfl hw ?_
  refine WC.seq ?_
  refine WC.region ?_
  refine WL.to (To.box (cs := p.cells) rfl rfl) rfl ?_
  intro b2
  refine WL.to (To.box (cs := q.cells) rfl rfl) rfl ?_
  intro b3
  refine WL.y (Yl.assign rfl) rfl ?_
  refine WL.nil ?_
  refine WC.seq ?_
  refine WC.drawAny (Hs := [blkR b2 32 p.cells, blkR b3 32 q.cells]) mixed (by kernel_rfl) ⟨_, (by repeat' constructor)⟩ ?_
  refine WD.tk 0 rfl (by kernel_rfl) rfl rfl (Yl.sliceArr un32 sz5 (by decide) rfl) rfl ?_
  refine WD.tk 1 rfl (by kernel_rfl) rfl rfl (Yl.sliceArr un32 sz5 (by decide) rfl) rfl ?_
  refine WD.one 2 (by kernel_rfl) ?_
  refine WO.callC (xs := [.tmp 5, .tmp 6]) (cap := []) rfl .no rfl rfl en83 (by repeat' constructor) (fun w hw => cmpB_any p.b q.b (.slice (some ⟨b2, 0, none⟩) 32 32) (.slice (some ⟨b3, 0, none⟩) 32 32) p.by8 q.by8 w (hw.src (A := []) (r := blkR b2 32 p.cells) (rdKy p) (by repeat constructor)) (hw.src (A := []) (r := blkR b3 32 q.cells) (rdKy q) (by repeat constructor)) hw.left.here) rfl (fun _ => ⟨_, (by repeat' constructor)⟩) ?_
  rintro ⟨⟩ -
  refine WD.tk 3 rfl (by kernel_rfl) rfl rfl (Yl.assign rfl) rfl ?_
  refine WD.done (by kernel_rfl) ?_
  refine WC.ret ?_
  repeat (with_reducible (first | refine peelT ?_ | refine peelB ?_ | refine peelTX ?_ | refine peelBX ?_ | refine peelBN ?_ | refine peelBO rfl ?_))
  exact ret1 (.inr rfl) Tryz.results61 rfl fun w' h => ⟨(), trivial, rfl, h.sub (by repeat' constructor)⟩

/-! ### Insertion -/
theorem so_getK {D : Array Ky} {i : Nat} (h : i < D.size) : D.toList[i]? = some D[i]! := by
  rw [Array.getElem?_toList, Array.getElem?_eq_getElem h, getElem!_pos D i h]
theorem swp_size {α : Type} [Inhabited α] (D : Array α) (i j : Nat) : (swp D i j).size = D.size := by unfold swp; simp
theorem so_swpK (D : Array Ky) (i j : Nat) : ((D.toList.set i D[j]!).set j D[i]!) = (swp D i j).toList := by
  unfold swp
  rw [Array.toList_setIfInBounds, Array.toList_setIfInBounds]
theorem Yl.indexF {c : Cx} {env : Env} {ds : List Deferred} {H : List Res} {dst : Option Tmp} {ty : TypeId} {pos : String} {af : Array Edge} {g : Option (Nat × Bool)} {t e : TypeId} {x i : Operand} {k : IntKind} {z : Int} {j n size : Nat} {v : Value} (hu : c.P.underlying t = some (.slice e)) (hsz : (c.P.info? e).map (·.size) = some size)
    (hx : ev env x = some v) (hi : ev env i = some (.int k z)) (hF : 0 < n → ∃ a cap, v = .slice (some a) n cap) (hz : z = (j : Int)) (hj : j < n) : Yl c env ds H ⟨dst, .indexAddr t x i, ty, pos, af, g⟩ (elemP v j size) := by
  obtain ⟨a, cap, rfl⟩ := hF (by omega)
  exact Yl.indexV hu hsz hx hi hz hj
theorem sl_form {w : World} {e : TypeId} {v : Value} {n s : Nat} {cs : List Value} (h : Sown w e s v n cs) : 0 < n → ∃ a cap, v = .slice (some a) n cap := by
  intro hn
  rcases h.2 with ⟨_, h0⟩ | ⟨b, off, cap, cur, hv, _⟩
  · omega
  · exact ⟨_, _, hv⟩
abbrev rwK (v : Value) (n : Nat) (l : List Ky) : Res := ownR v 32 32 n (vcs kyV l)
theorem ins_go {a j : Nat} {D : Array Ky} (h : a < j) (hl : ltK D[j]! D[j - 1]! = true) : insInner ltK a j D = insInner ltK a (j - 1) (swp D j (j - 1)) := by
  cases j with
  | zero => omega
  | succ j =>
    rw [insInner, if_pos (by rw [Bool.and_eq_true]; exact ⟨decide_eq_true h, hl⟩)]
    rfl
theorem ins_stop {a j : Nat} {D : Array Ky} (h : ¬ (a < j ∧ ltK D[j]! D[j - 1]! = true)) : insInner ltK a j D = D := by
  cases j with
  | zero => rfl
  | succ j =>
    rw [insInner, if_neg (fun e => h (by rw [Bool.and_eq_true] at e; exact ⟨of_decide_eq_true e.1, e.2⟩))]
theorem insOut_go {a b i : Nat} {D : Array Ky} (h : i < b) : insOuter ltK a b i D = insOuter ltK a b (i + 1) (insInner ltK a i D) := by rw [insOuter, if_pos h]
theorem insOut_stop {a b i : Nat} {D : Array Ky} (h : ¬ i < b) : insOuter ltK a b i D = D := by rw [insOuter, if_neg h]

set_option maxRecDepth 100000 in
theorem insK_any (v : Value) (n : Nat) (D : Array Ky) (a b : Nat) (hD : D.size = n) (hn : n ≤ 1099511627776) (hab : a ≤ b) (hb : b ≤ n) (w : World) (hw : OK w (fpL [rwK v n D.toList]) [rwK v n D.toList] w) :
    Fn Tryz.prog 101 [v, .int .i64 (a : Int), .int .i64 (b : Int), .func (.func 61) #[] #[]] [rwK v n D.toList] w (fun _ : Unit => True) (fun _ => .tuple #[]) (fun _ => [rwK v n (insertionSort ltK D a b).toList]) := by
  have hF := sl_form (hw.get (r := rwK v n D.toList) .head)
  unfold insertionSort
  obtain ⟨T, hT⟩ : ∃ T, insOuter ltK a b (a + 1) D = T := ⟨_, rfl⟩
  rw [hT]
  refine enterF Tryz.func101 rfl Tryz.ntmps101 rfl hw ?_
  refine WC.seq ?_
  refine WC.region ?_
  refine WL.y (Yl.move rfl) rfl ?_
  refine WL.y (Yl.add rfl rfl (IntWalk.i64_in _ (by omega))) rfl ?_
  refine WL.y (Yl.assign rfl) rfl ?_
  refine WL.nil ?_
  refine WC.block ?_
  refine WC.loop (α := Nat × Array Ky) (fun p => [(0, v), (1, .int .i64 (a : Int)), (2, .int .i64 (b : Int)), (3, .func (.func 61) #[] #[]), (8, .int .i64 (p.1 : Int))]) (fun p => [rwK v n p.2.toList]) (fun p => a < p.1 ∧ p.1 ≤ n + 1 ∧ p.2.size = n ∧ insOuter ltK a b p.1 p.2 = T) (fun p => n + 1 - p.1) (a + 1, D) ⟨Nat.lt_succ_self _, by dsimp only; omega, hD, hT⟩ ⟨(by repeat' constructor), _, (by repeat' constructor)⟩ ?_
  rintro ⟨i, E⟩ ⟨hi, hin, hE, hTE⟩
  dsimp only at hi hin hE hTE ⊢
  refine WC.seq ?_
  refine WC.seq ?_
  refine WC.region ?_
  refine WL.y (Yl.move rfl) rfl ?_
  refine WL.y (Yl.move rfl) rfl ?_
  refine WL.y (Yl.lss rfl rfl) rfl ?_
  refine WL.nil ?_
  refine WC.condD rfl (fun g14 => ?_) (fun g14 => ?_)
  · refine WC.skip ?_
    refine WC.seq ?_
    refine WC.block ?_
    refine WC.seq ?_
    refine WC.region ?_
    refine WL.y (Yl.move rfl) rfl ?_
    refine WL.y (Yl.assign rfl) rfl ?_
    refine WL.nil ?_
    refine WC.block ?_
    have hib : i < b := by omega
    refine WC.loop (α := Nat × Array Ky) (fun p => [(0, v), (1, .int .i64 (a : Int)), (2, .int .i64 (b : Int)), (3, .func (.func 61) #[] #[]), (8, .int .i64 (i : Int)), (9, .int .i64 (p.1 : Int))]) (fun p => [rwK v n p.2.toList]) (fun p => p.1 ≤ i ∧ p.2.size = n ∧ insInner ltK a p.1 p.2 = insInner ltK a i E) (fun p => p.1) (i, E) ⟨Nat.le_refl _, hE, rfl⟩ ⟨(by repeat' constructor), _, (by repeat' constructor)⟩ ?_
    rintro ⟨j, G⟩ ⟨hj, hG, hTG⟩
    dsimp only at hj hG hTG ⊢
    refine WC.seq ?_
    refine WC.midX (α := Unit) (fun _ => [(0, v), (1, .int .i64 (a : Int)), (2, .int .i64 (b : Int)), (3, .func (.func 61) #[] #[]), (8, .int .i64 (i : Int)), (9, .int .i64 (j : Int)), (34, .bool (decide ((a : Int) < (j : Int)) && ltK G[j]! G[j - 1]!))]) (fun _ => [rwK v n G.toList]) (fun _ => True) ?_ ?_
    · refine WC.drawAny (Hs := [rwK v n G.toList]) mixed (by kernel_rfl) ⟨_, (by repeat' constructor)⟩ ?_
      refine WD.tk 0 rfl (by kernel_rfl) rfl rfl (Yl.move rfl) rfl ?_
      refine WD.tk 1 rfl (by kernel_rfl) rfl rfl (Yl.move rfl) rfl ?_
      refine WD.tk 2 rfl (by kernel_rfl) rfl rfl (Yl.gtr rfl rfl) rfl ?_
      refine WD.tk 3 rfl (by kernel_rfl) rfl rfl (Yl.move rfl) rfl ?_
      refine WD.both (t := 21) rfl (fun g21 => ?_) (fun g21 => ?_)
      · have hja : a < j := by have := of_decide_eq_true g21; omega
        refine WD.takeOn 4 rfl (by kernel_rfl) (by kernel_rfl) (by kernel_rfl) rfl rfl rfl rfl (Yl.move rfl) rfl ?_
        refine WD.takeOn 5 rfl (by kernel_rfl) (by kernel_rfl) (by kernel_rfl) rfl rfl rfl rfl (Yl.move rfl) rfl ?_
        refine WD.takeOn 6 rfl (by kernel_rfl) (by kernel_rfl) (by kernel_rfl) rfl rfl rfl rfl (Yl.move rfl) rfl ?_
        refine WD.takeOn 7 rfl (by kernel_rfl) (by kernel_rfl) (by kernel_rfl) rfl rfl rfl rfl (Yl.index un22 sz32 rfl rfl (Reads.own (by repeat constructor)) rfl (by omega)) rfl ?_
        refine WD.takeOn 8 rfl (by kernel_rfl) (by kernel_rfl) (by kernel_rfl) rfl rfl rfl rfl (Yl.loadV (j := j) (u := G[j]!) vtK (fun _ _ => trivial) rfl (Reads.own (by repeat constructor)) (by rw [Array.length_toList]; exact hG) (so_getK (by omega))) rfl ?_
        refine WD.takeOn 9 rfl (by kernel_rfl) (by kernel_rfl) (by kernel_rfl) rfl rfl rfl rfl (Yl.move rfl) rfl ?_
        refine WD.takeOn 10 rfl (by kernel_rfl) (by kernel_rfl) (by kernel_rfl) rfl rfl rfl rfl (Yl.move rfl) rfl ?_
        refine WD.takeOn 11 rfl (by kernel_rfl) (by kernel_rfl) (by kernel_rfl) rfl rfl rfl rfl (Yl.sub rfl rfl (IntWalk.i64_in _ (by omega))) rfl ?_
        refine WD.say (t := 29) (v' := .int .i64 ((j - 1 : Nat) : Int)) rfl (by (refine congrArg _ ?_; omega)) ?_
        refine WD.takeOn 12 rfl (by kernel_rfl) (by kernel_rfl) (by kernel_rfl) rfl rfl rfl rfl (Yl.index un22 sz32 rfl rfl (Reads.own (by repeat constructor)) rfl (by omega)) rfl ?_
        refine WD.takeOn 13 rfl (by kernel_rfl) (by kernel_rfl) (by kernel_rfl) rfl rfl rfl rfl (Yl.loadV (j := j - 1) (u := G[j - 1]!) vtK (fun _ _ => trivial) rfl (Reads.own (by repeat constructor)) (by rw [Array.length_toList]; exact hG) (so_getK (by omega))) rfl ?_
        refine WD.one 14 (by kernel_rfl) ?_
        refine WO.callC (f := .tmp 22) (xs := [.tmp 26, .tmp 31]) (cap := []) rfl (.on rfl rfl) rfl rfl en61 (by repeat' constructor) (fun w hw => order_any G[j]! G[j - 1]! w hw.left.here) rfl (fun _ => ⟨_, (by repeat' constructor)⟩) ?_
        rintro ⟨⟩ -
        refine WD.takeOn 15 rfl (by kernel_rfl) (by kernel_rfl) (by kernel_rfl) rfl rfl rfl rfl (Yl.lss rfl rfl) rfl ?_
        refine WD.say (t := 33) (v' := .bool (ltK G[j]! G[j - 1]!)) rfl (by rfl) ?_
        refine WD.tk 16 rfl (by kernel_rfl) rfl rfl (Yl.pickT rfl rfl) rfl ?_
        refine WD.say (t := 34) (v' := .bool (decide ((a : Int) < (j : Int)) && ltK G[j]! G[j - 1]!)) rfl (by (rw [g21]; rfl)) ?_
        refine WD.done (by kernel_rfl) ?_
        exact ⟨rfl, (), trivial, (by repeat' constructor), _, (by repeat' constructor)⟩
      · refine WD.takeOff 4 rfl (by kernel_rfl) (by kernel_rfl) (by kernel_rfl) rfl rfl rfl rfl rfl rfl ?_
        refine WD.takeOff 5 rfl (by kernel_rfl) (by kernel_rfl) (by kernel_rfl) rfl rfl rfl rfl rfl rfl ?_
        refine WD.takeOff 6 rfl (by kernel_rfl) (by kernel_rfl) (by kernel_rfl) rfl rfl rfl rfl rfl rfl ?_
        refine WD.takeOff 7 rfl (by kernel_rfl) (by kernel_rfl) (by kernel_rfl) rfl rfl rfl rfl rfl rfl ?_
        refine WD.takeOff 8 rfl (by kernel_rfl) (by kernel_rfl) (by kernel_rfl) rfl rfl rfl rfl rfl rfl ?_
        refine WD.takeOff 9 rfl (by kernel_rfl) (by kernel_rfl) (by kernel_rfl) rfl rfl rfl rfl rfl rfl ?_
        refine WD.takeOff 10 rfl (by kernel_rfl) (by kernel_rfl) (by kernel_rfl) rfl rfl rfl rfl rfl rfl ?_
        refine WD.takeOff 11 rfl (by kernel_rfl) (by kernel_rfl) (by kernel_rfl) rfl rfl rfl rfl rfl rfl ?_
        refine WD.takeOff 12 rfl (by kernel_rfl) (by kernel_rfl) (by kernel_rfl) rfl rfl rfl rfl rfl rfl ?_
        refine WD.takeOff 13 rfl (by kernel_rfl) (by kernel_rfl) (by kernel_rfl) rfl rfl rfl rfl rfl rfl ?_
        refine WD.one 14 (by kernel_rfl) ?_
        refine WO.off rfl rfl rfl rfl rfl rfl rfl ?_
        refine WD.takeOff 15 rfl (by kernel_rfl) (by kernel_rfl) (by kernel_rfl) rfl rfl rfl rfl rfl rfl ?_
        refine WD.tk 16 rfl (by kernel_rfl) rfl rfl (Yl.pickF rfl rfl) rfl ?_
        refine WD.say (t := 34) (v' := .bool (decide ((a : Int) < (j : Int)) && ltK G[j]! G[j - 1]!)) rfl (by (rw [g21]; rfl)) ?_
        refine WD.done (by kernel_rfl) ?_
        exact ⟨rfl, (), trivial, (by repeat' constructor), _, (by repeat' constructor)⟩
    · rintro ⟨⟩ -
      refine WC.cond rfl (fun g34 => ?_) (fun g34 => ?_)
      · refine WC.skip ?_
        refine WC.seq ?_
        refine WC.block ?_
        have hgo : a < j ∧ ltK G[j]! G[j - 1]! = true := by
          rw [Bool.and_eq_true] at g34
          exact ⟨by have := of_decide_eq_true g34.1; omega, g34.2⟩
        obtain ⟨hja, hlt⟩ := hgo
        refine WC.drawAny (Hs := []) mixed (by kernel_rfl) ⟨_, (by repeat' constructor)⟩ ?_
        refine WD.tk 0 rfl (by kernel_rfl) rfl rfl (Yl.move rfl) rfl ?_
        refine WD.tk 1 rfl (by kernel_rfl) rfl rfl (Yl.move rfl) rfl ?_
        refine WD.tk 2 rfl (by kernel_rfl) rfl rfl (Yl.move rfl) rfl ?_
        refine WD.tk 3 rfl (by kernel_rfl) rfl rfl (Yl.move rfl) rfl ?_
        refine WD.tk 4 rfl (by kernel_rfl) rfl rfl (Yl.sub rfl rfl (IntWalk.i64_in _ (by omega))) rfl ?_
        refine WD.say (t := 41) (v' := .int .i64 ((j - 1 : Nat) : Int)) rfl (by (refine congrArg _ ?_; omega)) ?_
        refine WD.tk 5 rfl (by kernel_rfl) rfl rfl (Yl.move rfl) rfl ?_
        refine WD.tk 6 rfl (by kernel_rfl) rfl rfl (Yl.move rfl) rfl ?_
        refine WD.tk 7 rfl (by kernel_rfl) rfl rfl (Yl.sub rfl rfl (IntWalk.i64_in _ (by omega))) rfl ?_
        refine WD.say (t := 44) (v' := .int .i64 ((j - 1 : Nat) : Int)) rfl (by (refine congrArg _ ?_; omega)) ?_
        refine WD.tk 8 rfl (by kernel_rfl) rfl rfl (Yl.indexF un22 sz32 rfl rfl hF rfl (by omega)) rfl ?_
        refine WD.tk 10 rfl (by kernel_rfl) rfl rfl (Yl.move rfl) rfl ?_
        refine WD.tk 11 rfl (by kernel_rfl) rfl rfl (Yl.move rfl) rfl ?_
        refine WD.tk 12 rfl (by kernel_rfl) rfl rfl (Yl.indexF un22 sz32 rfl rfl hF rfl (by omega)) rfl ?_
        refine WD.two 9 13 (by kernel_rfl) ?_ ?_
        · refine WO.y rfl rfl .no (Yl.loadV (j := j - 1) (u := G[j - 1]!) vtK (fun _ _ => trivial) rfl (Reads.own (by repeat constructor)) (by rw [Array.length_toList]; exact hG) (so_getK (by omega))) rfl ?_
          refine WD.one 13 (by kernel_rfl) ?_
          refine WO.y rfl rfl .no (Yl.loadV (j := j) (u := G[j]!) vtK (fun _ _ => trivial) rfl (Reads.own (by repeat constructor)) (by rw [Array.length_toList]; exact hG) (so_getK (by omega))) rfl ?_
          refine WD.tk 14 rfl (by kernel_rfl) rfl rfl (Yl.indexF un22 sz32 rfl rfl hF rfl (by omega)) rfl ?_
          refine WD.one 15 (by kernel_rfl) ?_
          refine WO.sto rfl rfl .no (Sto.elemV (j := j) (u := G[j - 1]!) vtK (fun _ _ => trivial) trivial rfl rfl (by repeat constructor) (by rw [Array.length_toList]; exact hG) (by omega)) ⟨_, (by repeat' constructor)⟩ ?_
          refine WD.tk 16 rfl (by kernel_rfl) rfl rfl (Yl.indexF un22 sz32 rfl rfl hF rfl (by omega)) rfl ?_
          refine WD.one 17 (by kernel_rfl) ?_
          refine WO.sto rfl rfl .no (Sto.elemV (j := j - 1) (u := G[j]!) (xs := G.toList.set j G[j - 1]!) vtK (fun _ _ => trivial) trivial rfl rfl (by repeat constructor) (by rw [List.length_set, Array.length_toList]; exact hG) (by omega)) ⟨_, (by repeat' constructor)⟩ ?_
          refine WD.done (by kernel_rfl) ?_
          refine WC.region ?_
          refine WL.y (Yl.move rfl) rfl ?_
          refine WL.y (Yl.sub rfl rfl (IntWalk.i64_in _ (by omega))) rfl ?_
          refine WL.say (t := 36) (v' := .int .i64 ((j - 1 : Nat) : Int)) rfl (by (refine congrArg _ ?_; omega)) ?_
          refine WL.y (Yl.assign rfl) rfl ?_
          refine WL.nil ?_
          rw [so_swpK G j (j - 1)]
          exact ⟨rfl, (j - 1, swp G j (j - 1)), ⟨by dsimp only; omega, by dsimp only; rw [swp_size]; exact hG, by dsimp only; rw [← ins_go hja hlt]; exact hTG⟩, by dsimp only; omega, (by repeat' constructor), _, (by repeat' constructor)⟩
        · refine WO.y rfl rfl .no (Yl.loadV (j := j) (u := G[j]!) vtK (fun _ _ => trivial) rfl (Reads.own (by repeat constructor)) (by rw [Array.length_toList]; exact hG) (so_getK (by omega))) rfl ?_
          refine WD.one 9 (by kernel_rfl) ?_
          refine WO.y rfl rfl .no (Yl.loadV (j := j - 1) (u := G[j - 1]!) vtK (fun _ _ => trivial) rfl (Reads.own (by repeat constructor)) (by rw [Array.length_toList]; exact hG) (so_getK (by omega))) rfl ?_
          refine WD.tk 14 rfl (by kernel_rfl) rfl rfl (Yl.indexF un22 sz32 rfl rfl hF rfl (by omega)) rfl ?_
          refine WD.one 15 (by kernel_rfl) ?_
          refine WO.sto rfl rfl .no (Sto.elemV (j := j) (u := G[j - 1]!) vtK (fun _ _ => trivial) trivial rfl rfl (by repeat constructor) (by rw [Array.length_toList]; exact hG) (by omega)) ⟨_, (by repeat' constructor)⟩ ?_
          refine WD.tk 16 rfl (by kernel_rfl) rfl rfl (Yl.indexF un22 sz32 rfl rfl hF rfl (by omega)) rfl ?_
          refine WD.one 17 (by kernel_rfl) ?_
          refine WO.sto rfl rfl .no (Sto.elemV (j := j - 1) (u := G[j]!) (xs := G.toList.set j G[j - 1]!) vtK (fun _ _ => trivial) trivial rfl rfl (by repeat constructor) (by rw [List.length_set, Array.length_toList]; exact hG) (by omega)) ⟨_, (by repeat' constructor)⟩ ?_
          refine WD.done (by kernel_rfl) ?_
          refine WC.region ?_
          refine WL.y (Yl.move rfl) rfl ?_
          refine WL.y (Yl.sub rfl rfl (IntWalk.i64_in _ (by omega))) rfl ?_
          refine WL.say (t := 36) (v' := .int .i64 ((j - 1 : Nat) : Int)) rfl (by (refine congrArg _ ?_; omega)) ?_
          refine WL.y (Yl.assign rfl) rfl ?_
          refine WL.nil ?_
          rw [so_swpK G j (j - 1)]
          exact ⟨rfl, (j - 1, swp G j (j - 1)), ⟨by dsimp only; omega, by dsimp only; rw [swp_size]; exact hG, by dsimp only; rw [← ins_go hja hlt]; exact hTG⟩, by dsimp only; omega, (by repeat' constructor), _, (by repeat' constructor)⟩
      · refine WC.exit ?_
        have hst : insInner ltK a j G = G := ins_stop (fun e => by
          have : (decide ((a : Int) < (j : Int)) && ltK G[j]! G[j - 1]!) = true := by rw [Bool.and_eq_true]; exact ⟨decide_eq_true (by omega), e.2⟩
          rw [g34] at this
          cases this)
        refine WC.region ?_
        refine WL.y (Yl.move rfl) rfl ?_
        refine WL.y (Yl.add rfl rfl (IntWalk.i64_in _ (by omega))) rfl ?_
        refine WL.y (Yl.assign rfl) rfl ?_
        refine WL.nil ?_
        exact ⟨rfl, (i + 1, G), ⟨by dsimp only; omega, by dsimp only; omega, hG, by dsimp only; rw [← hTE, insOut_go hib, ← hTG, hst]⟩, by dsimp only; omega, (by repeat' constructor), _, (by repeat' constructor)⟩
  · refine WC.exit ?_
    repeat (with_reducible (first | refine peelT ?_ | refine peelB ?_ | refine peelTX ?_ | refine peelBX ?_ | refine peelBN ?_ | refine peelBO rfl ?_))
    have hib : ¬ i < b := by omega
    rw [insOut_stop hib] at hTE
    subst hTE
    exact ret0 (.inl rfl) Tryz.results101 fun w' h => ⟨(), trivial, rfl, h.sub (by repeat' constructor)⟩

/-! ### A copy -/
theorem cloneK_any (v : Value) (xs : List Ky) (hl : xs.length ≤ 1000000) (w : World) (hx : RdS w (fpL []) v 32 xs.length (vcs kyV xs)) (hw : OK w (fpL []) [] w) :
    Fn Tryz.prog 59 [v] [] w (fun _ : Option Addr × Nat => True) (fun y => .slice y.1 xs.length y.2) (fun y => [rwK (.slice y.1 xs.length y.2) xs.length xs]) := by
  obtain ⟨al, cl, rfl, hcl, hml⟩ := hx.rd.form
  refine enterF Tryz.func59 rfl Tryz.ntmps59 rfl hw ?_
  refine WC.seq ?_
  refine WC.region ?_
  refine WL.y (Yl.assign rfl) rfl ?_
  refine WL.nil ?_
  refine WC.seq ?_
  refine WC.seq ?_
  refine WC.region ?_
  refine WL.y (Yl.move rfl) rfl ?_
  refine WL.y (Yl.eqNil un22 rfl rfl) rfl ?_
  refine WL.nil ?_
  refine WC.cond rfl (fun g4 => ?_) (fun g4 => ?_)
  · refine WC.seq ?_
    refine WC.region ?_
    refine WL.y (Yl.assign rfl) rfl ?_
    refine WL.nil ?_
    refine WC.ret ?_
    repeat (with_reducible (first | refine peelT ?_ | refine peelB ?_ | refine peelTX ?_ | refine peelBX ?_ | refine peelBN ?_ | refine peelBO rfl ?_))
    have h0 : xs.length = 0 := by
      rcases hx.rd.2 with ⟨_, h0⟩ | ⟨a, cap, he, _⟩
      · exact h0
      · cases he; simp at g4
    have hxs : xs = [] := List.eq_nil_of_length_eq_zero h0
    subst hxs
    exact ret1 (.inr rfl) Tryz.results59 rfl fun w' h => ⟨(none, 0), trivial, rfl, (h.addNil 32 32).sub (by repeat' constructor)⟩
  · refine WC.skip ?_
    refine WC.seq ?_
    refine WC.region ?_
    refine WL.to (To.buildSlice (vs := []) un22 zs32 rfl rfl (by simp) (by decide) (by decide)) rfl ?_
    intro b5
    rw [show flat [] = [] from rfl]
    refine WL.view (fun w h => h.blkOwn (b := b5) (size := 32) (n := 0) (by repeat constructor) (by unfold maxLen; omega) rfl) ?_
    refine WL.y (Yl.move rfl) rfl ?_
    refine WL.to (To.append sl22 rfl rfl (by repeat constructor) (Reads.s hx) (vtK.ones _) (Nat.zero_add _) (List.nil_append _) (by unfold maxLen; omega) (by omega)) rfl ?_
    rintro ⟨⟨ao7, c7⟩, hc7⟩
    dsimp only at hc7 ⊢
    refine WL.y (Yl.assign rfl) rfl ?_
    refine WL.nil ?_
    refine WC.ret ?_
    repeat (with_reducible (first | refine peelT ?_ | refine peelB ?_ | refine peelTX ?_ | refine peelBX ?_ | refine peelBN ?_ | refine peelBO rfl ?_))
    exact ret1 (.inr rfl) Tryz.results59 rfl fun w' h => ⟨(ao7, c7), trivial, rfl, h.sub (by repeat' constructor)⟩
end Go.Proofs.YtcplbkbimpiioaaGreatDoor

namespace Go.Proofs.YtcplbkbimpiioaaGreatDoor
open Go Go.RowKit Go.Sort
theorem flK : Flat Tryz.prog 32 (List.replicate 32 (some .u8)) := Flat.mk' 5 (by decide) (by kernel_rfl) (by kernel_rfl)
theorem Ky.fits (k : Ky) : Fits1 (List.replicate 32 (some .u8)) k.cells := fitsB k.len k.by8
theorem ints_injK {xs ys : List Int} (h : ints .u8 xs = ints .u8 ys) : xs = ys := by
  unfold ints at h
  exact (List.map_inj_right (fun a b e => by cases e; rfl)).1 h
theorem eqVK (p q : Ky) : eqV p.cells q.cells = decide (p = q) := by
  by_cases h : p = q
  · subst h; rw [eqV_self, decide_eq_true rfl]
  · rw [decide_eq_false h]
    exact eqV_ne fun e => h (Ky.ext (ints_injK e))
section
variable {c : Cx} {env : Env} {ds : List Deferred} {H : List Res} {dst : Option Tmp} {ty : TypeId} {pos : String} {af : Array Edge} {g : Option (Nat × Bool)}
theorem Yl.eqK {t2 : TypeId} {x y : Operand} {p q : Ky} (hP : c.P = Tryz.prog) (hx : ev env x = some (kyV p)) (hy : ev env y = some (kyV q)) : Yl c env ds H ⟨dst, .binOp .eql 32 x y t2, ty, pos, af, g⟩ (.bool (decide (p = q))) := by
  rw [← eqVK]
  exact Yl.eqA (hP ▸ flK) hx hy p.fits q.fits
theorem Yl.neK {t2 : TypeId} {x y : Operand} {p q : Ky} (hP : c.P = Tryz.prog) (hx : ev env x = some (kyV p)) (hy : ev env y = some (kyV q)) : Yl c env ds H ⟨dst, .binOp .neq 32 x y t2, ty, pos, af, g⟩ (.bool (!decide (p = q))) := by
  rw [← eqVK]
  exact Yl.neA (hP ▸ flK) hx hy p.fits q.fits
end
set_option maxRecDepth 100000 in
theorem compactK_any (ao : Option Addr) (cap : Nat) (xs : List Ky) (hs : xs.Pairwise (fun x y => ltK y x = false)) (hl : xs.length ≤ 1000000) (w : World) (hw : OK w (fpL [rwK (.slice ao xs.length cap) xs.length xs]) [rwK (.slice ao xs.length cap) xs.length xs] w) :
    Fn Tryz.prog 62 [.slice ao xs.length cap] [rwK (.slice ao xs.length cap) xs.length xs] w (fun _ : Unit => True) (fun _ => .slice ao (compK xs).length cap) (fun _ => [rwK (.slice ao (compK xs).length cap) (compK xs).length (compK xs)]) := by
  have hcap : xs.length ≤ cap := Sown.le (hw.get .head)
  have hun : ∀ {zs : List Ky}, Asc zs → (∀ x, x ∈ zs ↔ x ∈ xs) → zs = compK xs := fun h1 h2 => Asc.uniq h1 (compK_asc hs) fun x => by rw [h2, compK_mem]
  refine enterF Tryz.func62 rfl Tryz.ntmps62 rfl hw ?_
  refine WC.seq ?_
  refine WC.region ?_
  refine WL.y (Yl.assign rfl) rfl ?_
  refine WL.nil ?_
  refine WC.seq ?_
  refine WC.seq ?_
  refine WC.region ?_
  refine WL.y (Yl.move rfl) rfl ?_
  refine WL.y (Yl.len un22 rfl) rfl ?_
  refine WL.y (Yl.lss rfl rfl) rfl ?_
  refine WL.nil ?_
  refine WC.condD rfl (fun g8 => ?_) (fun g8 => ?_)
  · refine WC.seq ?_
    refine WC.region ?_
    refine WL.y (Yl.move rfl) rfl ?_
    refine WL.y (Yl.assign rfl) rfl ?_
    refine WL.nil ?_
    refine WC.ret ?_
    repeat (with_reducible (first | refine peelT ?_ | refine peelB ?_ | refine peelTX ?_ | refine peelBX ?_ | refine peelBN ?_ | refine peelBO rfl ?_))
    have e : xs = compK xs := hun (by
      have h2 : xs.length < 2 := by have := g8; omega
      match xs, h2 with
      | [], _ => exact List.Pairwise.nil
      | [x], _ => exact List.pairwise_singleton _ _) (fun _ => Iff.rfl)
    rw [← e]
    exact ret1 (.inr rfl) Tryz.results62 rfl fun w' h => ⟨(), trivial, rfl, h.sub (by repeat' constructor)⟩
  · refine WC.skip ?_
    refine WC.seq ?_
    refine WC.seq ?_
    have h2 : 2 ≤ xs.length := by have := g8; omega
    refine WC.region ?_
    refine WL.y (Yl.assign rfl) rfl ?_
    refine WL.nil ?_
    refine WC.block ?_
    refine WC.loop (α := Nat) (fun k => [(0, .slice ao xs.length cap), (3, .int .i64 (k : Int))]) (fun _ => [rwK (.slice ao xs.length cap) xs.length xs]) (fun k => 1 ≤ k ∧ k ≤ xs.length ∧ Asc (xs.take k)) (fun k => xs.length - k) 1 ⟨Nat.le_refl _, by omega, by
      match xs, h2 with
      | x :: xs, _ => exact List.pairwise_singleton _ _⟩ ⟨(by repeat' constructor), _, (by repeat' constructor)⟩ ?_
    rintro k ⟨hk1, hkn, hka⟩
    refine WC.seq ?_
    refine WC.seq ?_
    refine WC.region ?_
    refine WL.y (Yl.move rfl) rfl ?_
    refine WL.y (Yl.move rfl) rfl ?_
    refine WL.y (Yl.len un22 rfl) rfl ?_
    refine WL.y (Yl.lss rfl rfl) rfl ?_
    refine WL.nil ?_
    refine WC.condD rfl (fun g13 => ?_) (fun g13 => ?_)
    · refine WC.skip ?_
      refine WC.seq ?_
      refine WC.block ?_
      refine WC.seq ?_
      have hkl : k < xs.length := by have := g13; omega
      obtain ⟨y, hy⟩ : ∃ y, xs[k]? = some y := ⟨_, List.getElem?_eq_getElem hkl⟩
      obtain ⟨z, hz⟩ : ∃ y, xs[k - 1]? = some y := ⟨_, List.getElem?_eq_getElem (by omega)⟩
      refine WC.drawRead mixed (by kernel_rfl) ?_
      refine WH.y (Yl.move rfl) rfl ?_
      refine WH.y (Yl.move rfl) rfl ?_
      refine WH.y (Yl.index un22 sz32 rfl rfl (Reads.of (r := rwK (.slice ao xs.length cap) xs.length xs) RdOf.own (by repeat constructor)) rfl (by omega)) rfl ?_
      refine WH.y (Yl.loadV (j := k) (u := y) vtK (fun _ _ => trivial) rfl (Reads.of (r := rwK (.slice ao xs.length cap) xs.length xs) RdOf.own (by repeat constructor)) rfl hy) rfl ?_
      refine WH.y (Yl.move rfl) rfl ?_
      refine WH.y (Yl.move rfl) rfl ?_
      refine WH.y (Yl.sub rfl rfl (IntWalk.i64_in _ (by omega))) rfl ?_
      refine WH.say (t := 22) (v' := .int .i64 ((k - 1 : Nat) : Int)) rfl (by (refine congrArg _ ?_; omega)) ?_
      refine WH.y (Yl.index un22 sz32 rfl rfl (Reads.of (r := rwK (.slice ao xs.length cap) xs.length xs) RdOf.own (by repeat constructor)) rfl (by omega)) rfl ?_
      refine WH.y (Yl.loadV (j := k - 1) (u := z) vtK (fun _ _ => trivial) rfl (Reads.of (r := rwK (.slice ao xs.length cap) xs.length xs) RdOf.own (by repeat constructor)) rfl hz) rfl ?_
      refine WH.y (Yl.eqK (p := y) (q := z) rfl rfl rfl) rfl ?_
      refine WH.nil ?_
      refine WC.condD rfl (fun g25 => ?_) (fun g25 => ?_)
      · refine WC.seq ?_
        have hyz : y = z := g25
        subst hyz
        refine WC.region ?_
        refine WL.y (Yl.move rfl) rfl ?_
        refine WL.y (Yl.move rfl) rfl ?_
        refine WL.y (Yl.slice (l := k) (h := xs.length) un22 sz32 rfl ⟨_, rfl⟩ rfl (by omega) (by omega)) rfl ?_
        refine WL.y (Yl.assign rfl) rfl ?_
        refine WL.nil ?_
        refine WC.seq ?_
        refine WC.seq ?_
        refine WC.region ?_
        refine WL.y (Yl.assign rfl) rfl ?_
        refine WL.nil ?_
        refine WC.block ?_
        refine WC.loop (α := List Ky × Nat × Nat) (fun s => [(0, .slice ao xs.length cap), (3, .int .i64 (s.2.1 : Int)), (4, subS (.slice ao xs.length cap) k xs.length cap 32), (5, .int .i64 (s.2.2 : Int))]) (fun s => [rwK (.slice ao xs.length cap) xs.length s.1]) (fun s => CompS xs s.1 s.2.1 (k + s.2.2) ∧ 1 ≤ s.2.2) (fun s => xs.length - (k + s.2.2)) (xs, k, 1) ⟨comp_start hk1 hka hy hz, Nat.le_refl _⟩ ⟨(by repeat' constructor), _, (by repeat' constructor)⟩ ?_
        rintro ⟨zs, q, k2⟩ ⟨hS, hk21⟩
        dsimp only at hS hk21 ⊢
        have hmn := hS.mn
        have hkm := hS.km
        have hq1 := hS.k1
        have hzl := hS.len
        have hsub : RdOf (rwK (.slice ao xs.length cap) xs.length zs) (subS (.slice ao xs.length cap) k xs.length cap 32) 32 (xs.length - k) (vcs kyV (zs.drop k)) := RdOf.sub RdOf.own (by omega) (Nat.le_refl _) (by rw [vtK.drop k (fun _ _ => trivial), List.take_of_length_le (by rw [vtK.size (fun _ _ => trivial), List.length_drop, hzl]; exact Nat.le_refl _)])
        refine WC.seq ?_
        refine WC.seq ?_
        refine WC.region ?_
        refine WL.y (Yl.move rfl) rfl ?_
        refine WL.y (Yl.move rfl) rfl ?_
        refine WL.y (Yl.len un22 rfl) rfl ?_
        refine WL.y (Yl.lss rfl rfl) rfl ?_
        refine WL.nil ?_
        refine WC.condD rfl (fun g32 => ?_) (fun g32 => ?_)
        · refine WC.skip ?_
          refine WC.seq ?_
          refine WC.block ?_
          refine WC.seq ?_
          have hkl2 : k2 < xs.length - k := by have := g32; omega
          obtain ⟨y2, hy2⟩ : ∃ y, xs[k + k2]? = some y := ⟨_, List.getElem?_eq_getElem (by omega)⟩
          obtain ⟨z2, hz2⟩ : ∃ y, xs[k + k2 - 1]? = some y := ⟨_, List.getElem?_eq_getElem (by omega)⟩
          have hzy : (zs.drop k)[k2]? = some y2 := by rw [List.getElem?_drop, hS.tail _ (by omega), hy2]
          have hzz : (zs.drop k)[k2 - 1]? = some z2 := by rw [List.getElem?_drop, show k + (k2 - 1) = k + k2 - 1 by omega, hS.tail _ (by omega), hz2]
          refine WC.drawRead mixed (by kernel_rfl) ?_
          refine WH.y (Yl.move rfl) rfl ?_
          refine WH.y (Yl.move rfl) rfl ?_
          refine WH.y (Yl.index un22 sz32 rfl rfl (Reads.of hsub (by repeat constructor)) rfl (by omega)) rfl ?_
          refine WH.y (Yl.loadV (j := k2) (u := y2) vtK (fun _ _ => trivial) rfl (Reads.of hsub (by repeat constructor)) (by rw [List.length_drop, hzl]) hzy) rfl ?_
          refine WH.y (Yl.move rfl) rfl ?_
          refine WH.y (Yl.move rfl) rfl ?_
          refine WH.y (Yl.sub rfl rfl (IntWalk.i64_in _ (by omega))) rfl ?_
          refine WH.say (t := 41) (v' := .int .i64 ((k2 - 1 : Nat) : Int)) rfl (by (refine congrArg _ ?_; omega)) ?_
          refine WH.y (Yl.index un22 sz32 rfl rfl (Reads.of hsub (by repeat constructor)) rfl (by omega)) rfl ?_
          refine WH.y (Yl.loadV (j := k2 - 1) (u := z2) vtK (fun _ _ => trivial) rfl (Reads.of hsub (by repeat constructor)) (by rw [List.length_drop, hzl]) hzz) rfl ?_
          refine WH.y (Yl.neK (p := y2) (q := z2) rfl rfl rfl) rfl ?_
          refine WH.nil ?_
          refine WC.cond rfl (fun g44 => ?_) (fun g44 => ?_)
          · refine WC.seq ?_
            refine WC.region ?_
            refine WL.y (Yl.move rfl) rfl ?_
            refine WL.y (Yl.move rfl) rfl ?_
            refine WL.y (Yl.move rfl) rfl ?_
            refine WL.y (Yl.move rfl) rfl ?_
            refine WL.y (Yl.index un22 sz32 rfl rfl (Reads.of hsub (by repeat constructor)) rfl (by omega)) rfl ?_
            refine WL.y (Yl.loadV (j := k2) (u := y2) vtK (fun _ _ => trivial) rfl (Reads.of hsub (by repeat constructor)) (by rw [List.length_drop, hzl]) hzy) rfl ?_
            refine WL.y (Yl.index un22 sz32 rfl rfl (Reads.of (r := rwK (.slice ao xs.length cap) xs.length zs) RdOf.own (by repeat constructor)) rfl (by omega)) rfl ?_
            refine WL.sto (Sto.elemV (j := q) (u := y2) vtK (fun _ _ => trivial) trivial rfl rfl (by repeat constructor) hzl (by omega)) (fun _ h => nomatch h) ?_
            refine WL.nil ?_
            refine WC.region ?_
            refine WL.y (Yl.move rfl) rfl ?_
            refine WL.y (Yl.add rfl rfl (IntWalk.i64_in _ (by omega))) rfl ?_
            refine WL.y (Yl.assign rfl) rfl ?_
            refine WL.nil ?_
            refine WC.region ?_
            refine WL.y (Yl.move rfl) rfl ?_
            refine WL.y (Yl.add rfl rfl (IntWalk.i64_in _ (by omega))) rfl ?_
            refine WL.y (Yl.assign rfl) rfl ?_
            refine WL.nil ?_
            exact ⟨rfl, (zs.set q y2, q + 1, k2 + 1), ⟨hS.put hs hy2 hz2 (by simpa using g44), by dsimp only; omega⟩, by dsimp only; omega, (by repeat' constructor), _, (by repeat' constructor)⟩
          · refine WC.skip ?_
            refine WC.region ?_
            refine WL.y (Yl.move rfl) rfl ?_
            refine WL.y (Yl.add rfl rfl (IntWalk.i64_in _ (by omega))) rfl ?_
            refine WL.y (Yl.assign rfl) rfl ?_
            refine WL.nil ?_
            have e : y2 = z2 := by simpa using g44
            subst e
            exact ⟨rfl, (zs, q, k2 + 1), ⟨hS.same hy2 hz2, by dsimp only; omega⟩, by dsimp only; omega, (by repeat' constructor), _, (by repeat' constructor)⟩
        · refine WC.exit ?_
          refine WC.seq ?_
          refine WC.region ?_
          refine WL.y (Yl.move rfl) rfl ?_
          refine WL.y (Yl.move rfl) rfl ?_
          refine WL.y (Yl.slice un22 sz32 rfl ⟨_, rfl⟩ rfl (by omega) (by omega)) rfl ?_
          refine WL.eff (Eff.clear sl22 (n := xs.length) (i := q) (cs' := vcs kyV (zs.take q)) (by simp [Value.cells]; rfl) rfl (by repeat constructor) (by omega) (by rw [vtK.take q (fun _ _ => trivial)])) ?_
          refine WL.nil ?_
          refine WC.seq ?_
          refine WC.region ?_
          refine WL.y (Yl.move rfl) rfl ?_
          refine WL.y (Yl.move rfl) rfl ?_
          refine WL.y (Yl.slice (l := 0) (h := q) un22 sz32 rfl rfl ⟨_, rfl⟩ (by omega) (by omega)) rfl ?_
          refine WL.y (Yl.assign rfl) rfl ?_
          refine WL.nil ?_
          refine WC.ret ?_
          repeat (with_reducible (first | refine peelT ?_ | refine peelB ?_ | refine peelTX ?_ | refine peelBX ?_ | refine peelBN ?_ | refine peelBO rfl ?_))
          have hmx : k + k2 = xs.length := by have := g32; omega
          have hm := hS.mem
          rw [hmx, List.take_length] at hm
          have hl2 : (zs.take q).length = q := by rw [List.length_take]; omega
          rw [← hun hS.asc hm, hl2]
          exact ret1 (.inr rfl) Tryz.results62 rfl fun w' h => ⟨(), trivial, (by rw [sub0]), by rw [sub0] at h; exact h.sub (by repeat' constructor)⟩
      · refine WC.skip ?_
        refine WC.region ?_
        refine WL.y (Yl.move rfl) rfl ?_
        refine WL.y (Yl.add rfl rfl (IntWalk.i64_in _ (by omega))) rfl ?_
        refine WL.y (Yl.assign rfl) rfl ?_
        refine WL.nil ?_
        exact ⟨rfl, k + 1, ⟨by omega, by omega, asc_next hs hk1 hka hy hz g25⟩, by omega, (by repeat' constructor), _, (by repeat' constructor)⟩
    · refine WC.exit ?_
      refine WC.seq ?_
      refine WC.region ?_
      refine WL.y (Yl.move rfl) rfl ?_
      refine WL.y (Yl.assign rfl) rfl ?_
      refine WL.nil ?_
      refine WC.ret ?_
      repeat (with_reducible (first | refine peelT ?_ | refine peelB ?_ | refine peelTX ?_ | refine peelBX ?_ | refine peelBN ?_ | refine peelBO rfl ?_))
      have e : xs = compK xs := hun (by
        have h1 : k = xs.length := by have := g13; omega
        rw [h1, List.take_length] at hka
        exact hka) (fun _ => Iff.rfl)
      rw [← e]
      exact ret1 (.inr rfl) Tryz.results62 rfl fun w' h => ⟨(), trivial, rfl, h.sub (by repeat' constructor)⟩
set_option maxRecDepth 100000 in
theorem pdqK_few (v : Value) (D : Array Ky) (lim : Int) (h12 : D.size ≤ 12) (w : World) (hw : OK w (fpL [rwK v D.size D.toList]) [rwK v D.size D.toList] w) :
    Fn Tryz.prog 81 [v, .int .i64 0, .int .i64 (D.size : Int), .int .i64 lim, .func (.func 61) #[] #[]] [rwK v D.size D.toList] w (fun _ : Unit => True) (fun _ => .tuple #[]) (fun _ => [rwK v D.size (ascK D.toList)]) := by
  rw [← insK]
  refine enterF Tryz.func81 rfl Tryz.ntmps81 rfl hw ?_
  refine WC.seq ?_
  refine WC.region ?_
  refine WL.y (Yl.assign rfl) rfl ?_
  refine WL.nil ?_
  refine WC.seq ?_
  refine WC.region ?_
  refine WL.y (Yl.assign rfl) rfl ?_
  refine WL.nil ?_
  refine WC.block ?_
  refine WC.loop (α := Unit) (fun _ => [(0, v), (1, .int .i64 ((0 : Nat) : Int)), (2, .int .i64 (D.size : Int)), (3, .int .i64 lim), (4, .func (.func 61) #[] #[]), (10, .bool true), (11, .bool true)]) (fun _ => [rwK v D.size D.toList]) (fun _ => True) (fun _ => 0) () trivial ⟨(by repeat' constructor), _, (by repeat' constructor)⟩ ?_
  rintro ⟨⟩ -
  refine WC.block ?_
  refine WC.seq ?_
  refine WC.region ?_
  refine WL.y (Yl.move rfl) rfl ?_
  refine WL.y (Yl.move rfl) rfl ?_
  refine WL.y (Yl.sub rfl rfl (IntWalk.i64_in _ (by omega))) rfl ?_
  refine WL.y (Yl.assign rfl) rfl ?_
  refine WL.nil ?_
  refine WC.seq ?_
  refine WC.seq ?_
  refine WC.region ?_
  refine WL.y (Yl.move rfl) rfl ?_
  refine WL.y (Yl.leq rfl rfl) rfl ?_
  refine WL.know (t := 25) (b' := true) rfl (by simp; omega) ?_
  refine WL.nil ?_
  refine WC.condT rfl (by first | rfl | (simp; done) | (simp; omega)) ?_
  refine WC.seq ?_
  refine WC.region ?_
  refine WL.y (Yl.move rfl) rfl ?_
  refine WL.y (Yl.move rfl) rfl ?_
  refine WL.y (Yl.move rfl) rfl ?_
  refine WL.y (Yl.move rfl) rfl ?_
  refine WL.callC (xs := [.tmp 26, .tmp 27, .tmp 28, .tmp 29]) (cap := []) rfl rfl en101 (by repeat' constructor) (fun w hw => insK_any v D.size D 0 D.size rfl (by omega) (Nat.zero_le _) (Nat.le_refl _) w hw.left.here) rfl ?_
  rintro ⟨⟩ -
  dsimp only [List.cons_append, List.nil_append]
  refine WL.nil ?_
  refine WC.ret ?_
  repeat (with_reducible (first | refine peelT ?_ | refine peelB ?_ | refine peelTX ?_ | refine peelBX ?_ | refine peelBN ?_ | refine peelBO rfl ?_))
  exact ret0 (.inr rfl) Tryz.results81 fun w' h => ⟨(), trivial, rfl, h.sub (by repeat' constructor)⟩
end Go.Proofs.YtcplbkbimpiioaaGreatDoor
