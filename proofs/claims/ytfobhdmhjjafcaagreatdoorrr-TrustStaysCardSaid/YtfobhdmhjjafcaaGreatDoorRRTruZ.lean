/- Books: a key is forgotten: the walks. -/
import Derived.Test.YtfobhdmhjjafcaaGreatDoorRRTruR
import Derived.Test.YtfobhdmhjjafcaaGreatDoorRRRows
import Derived.Test.YtfobhdmhjjafcaaGreatDoorRRTruB
import Derived.Test.YtfobhdmhjjafcaaGreatDoorRRTruL
import Derived.Test.YtfobhdmhjjafcaaGreatDoorRRLibUp
import Derived.Test.YtfobhdmhjjafcaaGreatDoorRRLibM
import Derived.Shelf.Vars
import Derived.Test.YtfobhdmhjjafcaaGreatDoorRRLibMk
namespace Go.Proofs.YtfobhdmhjjafcaaGreatDoorRR
open Go Go.RowKit
/-- What Forget answers (of a device that may be), and what it leaves. -/
def hasAtC (l : Cs) (a : Int) (i : Nat) : Bool := match mget l a with
  | none => false
  | some c => c.has.getD i false
def fgE (l : Cs) (a : Int) (i : Nat) : Int := if hasAtC l a i then 0 else 4
def forgetC (l : Cs) (a : Int) (i : Nat) : Cs := match mget l a with
  | none => l
  | some c => if c.has.getD i false then (if (forgetT c i).kys.length = 0 then mdel l a else mput l a (forgetT c i)) else l
theorem forget_bad (b : Nat) (v1 v2 : Value) (acc a d : Int) (hm : mayF acc a d = 2) (w : World) (hw : OK w (fpL [blkR b 82 [.int .u8 acc, v1, v2]]) [blkR b 82 [.int .u8 acc, v1, v2]] w) :
    Fn Tryz.prog 21 [.pointer (some ⟨b, 0, none⟩), .agg #[.int .u8 a, .int .u8 d]] [blkR b 82 [.int .u8 acc, v1, v2]] w (fun _ : Unit => True) (fun _ => .int .i64 2) (fun _ => [blkR b 82 [.int .u8 acc, v1, v2]]) := by
  refine enterF Tryz.func21 rfl Tryz.ntmps21 rfl hw ?_
  refine WC.seq ?_
  refine WC.region ?_
  refine WL.to (To.box (cs := [.int .u8 a, .int .u8 d]) rfl rfl) rfl ?_ -- t3
  intro b3
  refine WL.y (Yl.assign rfl) rfl ?_ -- t4
  refine WL.nil ?_
  refine WC.seq ?_
  refine WC.seq ?_
  refine WC.region ?_
  refine WL.y (Yl.move rfl) rfl ?_ -- t7
  refine WL.y (Yl.loadN ag40 rfl (by repeat (first | exact Take1.head | apply Take1.tail)) (by rfl) (by rfl)) rfl ?_ -- t8
  refine WL.callC (xs := [.tmp 7, .tmp 8]) (cap := []) rfl rfl en35 (by repeat (first | exact TakeL.nil | (apply TakeL.cons; · repeat (first | exact Take1.head | apply Take1.tail)))) (fun w hw => may_any b v1 v2 acc a d w hw.left.here) rfl ?_ -- t9 (*hailer/trust.Book).may
  rintro ⟨⟩ -
  rw [hm]
  refine WL.y (Yl.assign rfl) rfl ?_ -- t5
  refine WL.nil ?_
  refine WC.seq ?_
  refine WC.region ?_
  refine WL.y (Yl.move rfl) rfl ?_ -- t10
  refine WL.y (Yl.neq rfl rfl) rfl ?_ -- t11
  refine WL.nil ?_
  refine WC.condT rfl (by first | rfl | (simp; done) | (simp; omega)) ?_
  refine WC.seq ?_
  refine WC.region ?_
  refine WL.y (Yl.move rfl) rfl ?_ -- t12
  refine WL.y (Yl.assign rfl) rfl ?_ -- t4
  refine WL.nil ?_
  refine WC.ret ?_
  repeat (first | (with_reducible refine peelT ?_) | (with_reducible refine peelB ?_) | (with_reducible refine peelTX ?_) | (with_reducible refine peelBX ?_) | (with_reducible refine peelBN ?_) | (with_reducible refine peelBO rfl ?_))
  exact ret1 (.inr rfl) Tryz.results21 rfl fun w' h => ⟨(), trivial, rfl, h.sub (by repeat (first | exact TakeL.nil | (apply TakeL.cons; · repeat (first | exact Take1.head | apply Take1.tail))))⟩
set_option maxRecDepth 100000 in
theorem forget_no (b : Nat) (ao : Option Addr) (cp mb : Nat) (acc : Int) (own : List Ky) (es : Es) (hE : EG es) (a : Int) (ha : 0 ≤ a ∧ a < 256) (i : Nat) (hi : i < 4) (hm : mayF acc a (i : Int) = 0) (h1 : mget (pm es) a = none) (w : World) (hw : OK w (fpL (bkL b ao cp mb acc own es)) (bkL b ao cp mb acc own es) w) :
    Fn Tryz.prog 21 [.pointer (some ⟨b, 0, none⟩), .agg #[.int .u8 a, .int .u8 (i : Int)]] (bkL b ao cp mb acc own es) w (fun _ : Unit => True) (fun _ => .int .i64 4) (fun _ => bkL b ao cp mb acc own es) := by
  refine enterF Tryz.func21 rfl Tryz.ntmps21 rfl hw ?_
  refine WC.seq ?_
  refine WC.region ?_
  refine WL.to (To.box (cs := [.int .u8 a, .int .u8 (i : Int)]) rfl rfl) rfl ?_ -- t3
  intro b3
  refine WL.y (Yl.assign rfl) rfl ?_ -- t4
  refine WL.nil ?_
  refine WC.seq ?_
  refine WC.seq ?_
  refine WC.region ?_
  refine WL.y (Yl.move rfl) rfl ?_ -- t7
  refine WL.y (Yl.loadN ag40 rfl (by repeat (first | exact Take1.head | apply Take1.tail)) (by rfl) (by rfl)) rfl ?_ -- t8
  refine WL.callC (xs := [.tmp 7, .tmp 8]) (cap := []) rfl rfl en35 (by repeat (first | exact TakeL.nil | (apply TakeL.cons; · repeat (first | exact Take1.head | apply Take1.tail)))) (fun w hw => may_any b (.slice ao own.length cp) (.map (some mb)) acc a (i : Int) w hw.left.here) rfl ?_ -- t9 (*hailer/trust.Book).may
  rintro ⟨⟩ -
  rw [hm]
  dsimp only [List.cons_append, List.nil_append]
  refine WL.y (Yl.assign rfl) rfl ?_ -- t5
  refine WL.nil ?_
  refine WC.seq ?_
  refine WC.region ?_
  refine WL.y (Yl.move rfl) rfl ?_ -- t10
  refine WL.y (Yl.neq rfl rfl) rfl ?_ -- t11
  refine WL.nil ?_
  refine WC.condF rfl (by first | rfl | (simp; done) | (simp; omega)) ?_
  refine WC.skip ?_
  refine WC.seq ?_
  refine WC.drawRead mixed (by kernel_rfl) ?_
  refine WH.y (Yl.move rfl) rfl ?_ -- t13
  refine WH.y (Yl.nilCheck rfl) rfl ?_ -- t14
  refine WH.y (Yl.field fo82_2 rfl) rfl ?_ -- t15
  refine WH.y (Yl.load on80 rfl (by repeat (first | exact Take1.head | apply Take1.tail)) (by rfl)) rfl ?_ -- t16
  refine WH.y (Yl.field fo40_0 rfl) rfl ?_ -- t17
  refine WH.y (Yl.load on5 rfl (by repeat (first | exact Take1.head | apply Take1.tail)) (by rfl)) rfl ?_ -- t18
  refine WH.y (Yl.lookup (kv := Value.int .u8) (vv := ptV) (m := pm es) (z := .pointer none) keyU8 un80 zPC hE.pmk rfl rfl (u8_wf ha) (MReads.of (m := pm es) MapOf.own (by repeat (first | exact Take1.head | apply Take1.tail)))) rfl ?_
  rw [h1]
  dsimp only [Option.map_none, Option.getD_none]
  refine WH.y (Yl.assign rfl) rfl ?_ -- t6
  refine WH.nil ?_
  refine WC.seq ?_
  refine WC.seq ?_
  refine WC.drawRead mixed (by kernel_rfl) ?_
  refine WH.y (Yl.move rfl) rfl ?_ -- t20
  refine WH.y (Yl.nilEq un83 rfl rfl) rfl ?_ -- t21
  refine WH.y (Yl.move rfl) rfl ?_ -- t22
  refine WH.know (t := 22) (b' := true) rfl (by first | rfl | (simp; done) | (simp; omega)) ?_
  refine WH.off rfl rfl rfl rfl ?_ -- t23
  refine WH.off rfl rfl rfl rfl ?_ -- t24
  refine WH.off rfl rfl rfl rfl ?_ -- t25
  refine WH.off rfl rfl rfl rfl ?_ -- t26
  refine WH.off rfl rfl rfl rfl ?_ -- t27
  refine WH.off rfl rfl rfl rfl ?_ -- t28
  refine WH.off rfl rfl rfl rfl ?_ -- t29
  refine WH.off rfl rfl rfl rfl ?_ -- t30
  refine WH.y (Yl.pickT rfl rfl) rfl ?_ -- t31
  refine WH.know (t := 31) (b' := true) rfl (by first | rfl | (simp; done) | (simp; omega)) ?_
  refine WH.nil ?_
  refine WC.condT rfl (by first | rfl | (simp; done) | (simp; omega)) ?_
  refine WC.seq ?_
  refine WC.region ?_
  refine WL.y (Yl.assign rfl) rfl ?_ -- t4
  refine WL.nil ?_
  refine WC.ret ?_
  repeat (first | (with_reducible refine peelT ?_) | (with_reducible refine peelB ?_) | (with_reducible refine peelTX ?_) | (with_reducible refine peelBX ?_) | (with_reducible refine peelBN ?_) | (with_reducible refine peelBO rfl ?_))
  exact ret1 (.inr rfl) Tryz.results21 rfl fun w' h => ⟨(), trivial, rfl, h.sub (by repeat (first | exact TakeL.nil | (apply TakeL.cons; · repeat (first | exact Take1.head | apply Take1.tail))))⟩
theorem map_eraseK {α β : Type} (f : α → β) : ∀ (l : List α) (i : Nat), (l.map f).eraseIdx i = (l.eraseIdx i).map f
  | [], _ => rfl
  | _ :: _, 0 => rfl
  | x :: l, i + 1 => by rw [List.map_cons, List.eraseIdx_cons_succ, List.eraseIdx_cons_succ, List.map_cons, map_eraseK f l i]
theorem WP.eff {c : Cx} {Q : SQ} {env : Env} {ds : List Deferred} {H H' : List Res} {ops : Array Oper} {rest : List Oper} {op : Op} {ty : TypeId} {pos : String} {af : Array Edge} (h : Eff c env ds H ⟨none, op, ty, pos, af, none⟩ H') (k : WP c ops Q rest env ds H') : WP c ops Q (⟨none, op, ty, pos, af, none⟩ :: rest) env ds H :=
  ⟨fun a w ha hw => wpList_plain rfl fun K hK => by
    obtain ⟨v, w', h1, h2⟩ := h a w ha hw
    unfold Oper.wp
    rw [h1]
    exact hK _ _ (k.run _ _ (ha.putNone _) h2)⟩
theorem EG.ndm {es : Es} (h : EG es) : mnd (pm es) := by
  have := h.nd
  unfold mnd pj at this
  unfold mnd pm
  rw [List.pairwise_map] at this ⊢
  exact this
theorem EG.erase {es : Es} (h : EG es) {j : Nat} {a : Int} {nb : Nat} {c : Ct} (hj : es[j]? = some (a, nb, c)) : EG (es.eraseIdx j) ∧ pj (es.eraseIdx j) = mdel (pj es) a ∧ pm (es.eraseIdx j) = mdel (pm es) a := by
  have hp : (pj es)[j]? = some (a, c) := by unfold pj; rw [List.getElem?_map, hj]; rfl
  have hq : (pm es)[j]? = some (a, nb) := by unfold pm; rw [List.getElem?_map, hj]; rfl
  have e1 : pj (es.eraseIdx j) = mdel (pj es) a := by
    rw [del_same h.nd hp]; unfold pj; rw [map_eraseK]
  have e2 : pm (es.eraseIdx j) = mdel (pm es) a := by
    rw [del_same h.ndm hq]; unfold pm; rw [map_eraseK]
  exact ⟨⟨fun e he => h.key e (List.mem_of_mem_eraseIdx he), fun e he => h.ct e (List.mem_of_mem_eraseIdx he), by rw [e1]; exact mdel_nd h.nd _⟩, e1, e2⟩
set_option maxHeartbeats 1600000 in
set_option maxRecDepth 100000 in
theorem forget_old (b : Nat) (ao : Option Addr) (cp mb : Nat) (acc : Int) (own : List Ky) (es : Es) (hE : EG es) (a : Int) (ha : 0 ≤ a ∧ a < 256) (i : Nat) (hi : i < 4) (hm : mayF acc a (i : Int) = 0) (j nb : Nat) (c : Ct) (hj : es[j]? = some (a, nb, c)) (h1 : mget (pm es) a = some nb) (h2 : mget (pj es) a = some c) (w : World) (hw : OK w (fpL (bkL b ao cp mb acc own es)) (bkL b ao cp mb acc own es) w) :
    Fn Tryz.prog 21 [.pointer (some ⟨b, 0, none⟩), .agg #[.int .u8 a, .int .u8 (i : Int)]] (bkL b ao cp mb acc own es) w (fun es' : Es => pj es' = forgetC (pj es) a i ∧ EG es') (fun _ => .int .i64 (fgE (pj es) a i)) (fun es' => bkL b ao cp mb acc own es') := by
  have hok := hE.ct _ (List.mem_of_getElem? hj)
  dsimp only at hok
  have hjl := (List.getElem?_eq_some_iff.1 hj).1
  obtain ⟨hd, hb⟩ : ∃ hd, c.has[i]? = some hd := ⟨_, List.getElem?_eq_getElem (by rw [hok.hl]; exact hi)⟩
  have hb2 : c.has.getD i false = hd := by rw [List.getD_eq_getElem?_getD, hb]; rfl
  have hat : hasAtC (pj es) a i = hd := by unfold hasAtC; rw [h2]; exact hb2
  have hfc : forgetC (pj es) a i = if hd = true then (if (forgetT c i).kys.length = 0 then mdel (pj es) a else mput (pj es) a (forgetT c i)) else pj es := by unfold forgetC; rw [h2]; dsimp only; rw [hb2]
  have hokF := forgetT_ok hok i
  have hokM : (⟨c.ks.set i Ky.zero, c.has.set i false, c.st⟩ : Ct).ok := ⟨by dsimp only; rw [List.length_set, hok.kl], by dsimp only; rw [List.length_set, hok.hl]⟩
  unfold fgE
  rw [hat, hfc]
  refine enterF Tryz.func21 rfl Tryz.ntmps21 rfl hw ?_
  refine WC.seq ?_
  refine WC.region ?_
  refine WL.to (To.box (cs := [.int .u8 a, .int .u8 (i : Int)]) rfl rfl) rfl ?_ -- t3
  intro b3
  refine WL.y (Yl.assign rfl) rfl ?_ -- t4
  refine WL.nil ?_
  refine WC.seq ?_
  refine WC.seq ?_
  refine WC.region ?_
  refine WL.y (Yl.move rfl) rfl ?_ -- t7
  refine WL.y (Yl.loadN ag40 rfl (by repeat (first | exact Take1.head | apply Take1.tail)) (by rfl) (by rfl)) rfl ?_ -- t8
  refine WL.callC (xs := [.tmp 7, .tmp 8]) (cap := []) rfl rfl en35 (by repeat (first | exact TakeL.nil | (apply TakeL.cons; · repeat (first | exact Take1.head | apply Take1.tail)))) (fun w hw => may_any b (.slice ao own.length cp) (.map (some mb)) acc a (i : Int) w hw.left.here) rfl ?_ -- t9 (*hailer/trust.Book).may
  rintro ⟨⟩ -
  rw [hm]
  dsimp only [List.cons_append, List.nil_append]
  refine WL.y (Yl.assign rfl) rfl ?_ -- t5
  refine WL.nil ?_
  refine WC.seq ?_
  refine WC.region ?_
  refine WL.y (Yl.move rfl) rfl ?_ -- t10
  refine WL.y (Yl.neq rfl rfl) rfl ?_ -- t11
  refine WL.nil ?_
  refine WC.condF rfl (by first | rfl | (simp; done) | (simp; omega)) ?_
  refine WC.skip ?_
  refine WC.seq ?_
  refine WC.drawRead mixed (by kernel_rfl) ?_
  refine WH.y (Yl.move rfl) rfl ?_ -- t13
  refine WH.y (Yl.nilCheck rfl) rfl ?_ -- t14
  refine WH.y (Yl.field fo82_2 rfl) rfl ?_ -- t15
  refine WH.y (Yl.load on80 rfl (by repeat (first | exact Take1.head | apply Take1.tail)) (by rfl)) rfl ?_ -- t16
  refine WH.y (Yl.field fo40_0 rfl) rfl ?_ -- t17
  refine WH.y (Yl.load on5 rfl (by repeat (first | exact Take1.head | apply Take1.tail)) (by rfl)) rfl ?_ -- t18
  refine WH.y (Yl.lookup (kv := Value.int .u8) (vv := ptV) (m := pm es) (z := .pointer none) keyU8 un80 zPC hE.pmk rfl rfl (u8_wf ha) (MReads.of (m := pm es) MapOf.own (by repeat (first | exact Take1.head | apply Take1.tail)))) rfl ?_
  rw [h1]
  dsimp only [Option.map_some, Option.getD_some, ptV]
  refine WH.y (Yl.assign rfl) rfl ?_ -- t6
  refine WH.nil ?_
  refine WC.seq ?_
  refine WC.seq ?_
  refine WC.view (fun w h => h.allOut (f := ctR) (by repeat (first | exact Take1.head | apply Take1.tail)) hj) ?_
  refine WC.drawRead mixed (by kernel_rfl) ?_
  refine WH.y (Yl.move rfl) rfl ?_ -- t20
  refine WH.y (Yl.nilEq un83 rfl rfl) rfl ?_ -- t21
  refine WH.y (Yl.move rfl) rfl ?_ -- t22
  refine WH.know (t := 22) (b' := false) rfl (by first | rfl | (simp; done) | (simp; omega)) ?_
  refine WH.on rfl rfl ?_
  refine WH.y (Yl.move rfl) rfl ?_ -- t23
  refine WH.on rfl rfl ?_
  refine WH.y (Yl.field fo40_1 rfl) rfl ?_ -- t24
  refine WH.on rfl rfl ?_
  refine WH.y (Yl.load on5 rfl (by repeat (first | exact Take1.head | apply Take1.tail)) (by rfl)) rfl ?_ -- t25
  refine WH.on rfl rfl ?_
  refine WH.y (Yl.nilCheck rfl) rfl ?_ -- t26
  refine WH.on rfl rfl ?_
  refine WH.y (Yl.field fo87_1 rfl) rfl ?_ -- t27
  refine WH.on rfl rfl ?_
  refine WH.y (Yl.indexA un85 sz4 rfl rfl rfl (by omega)) rfl ?_ -- t28
  refine WH.on rfl rfl ?_
  refine WH.y (Yl.load (T := 87) (cs := c.cells) on4 rfl (by repeat (first | exact Take1.head | apply Take1.tail)) (Ct.hasAt' hok hb (by omega))) rfl ?_
  refine WH.on rfl rfl ?_
  refine WH.y (Yl.not rfl) rfl ?_ -- t30
  refine WH.y (Yl.pickF rfl rfl) rfl ?_ -- t31
  refine WH.nil ?_
  refine WC.cond rfl (fun g31 => ?_) (fun g31 => ?_)
  · refine WC.seq ?_
    refine WC.region ?_
    refine WL.y (Yl.assign rfl) rfl ?_ -- t4
    refine WL.nil ?_
    refine WC.ret ?_
    repeat (first | (with_reducible refine peelT ?_) | (with_reducible refine peelB ?_) | (with_reducible refine peelTX ?_) | (with_reducible refine peelBX ?_) | (with_reducible refine peelBN ?_) | (with_reducible refine peelBO rfl ?_))
    have hf : hd = false := by simpa using g31
    subst hf
    refine ret1 (.inr rfl) Tryz.results21 rfl fun w' h => ⟨es, ⟨by rw [if_neg (by decide)], hE⟩, rfl, (OK.allBack (f := ctR) h (by repeat (first | exact TakeL.nil | (apply TakeL.cons; · repeat (first | exact Take1.head | apply Take1.tail)))) hj).sub (by repeat (first | exact TakeL.nil | (apply TakeL.cons; · repeat (first | exact Take1.head | apply Take1.tail))))⟩
  · refine WC.skip ?_
    refine WC.seq ?_
    have hf : hd = true := by simpa using g31
    subst hf
    refine WC.drawAny (Hs := [blkR b3 40 [.int .u8 a, .int .u8 (i : Int)]]) mixed (by kernel_rfl) ⟨_, (by repeat (first | exact TakeL.nil | (apply TakeL.cons; · repeat (first | exact Take1.head | apply Take1.tail))))⟩ ?_
    refine WD.take 0 rfl (by kernel_rfl) (by kernel_rfl) (by kernel_rfl) rfl rfl (Yl.move rfl) rfl ?_ -- t32
    refine WD.take 1 rfl (by kernel_rfl) (by kernel_rfl) (by kernel_rfl) rfl rfl (Yl.field fo40_1 rfl) rfl ?_ -- t33
    refine WD.take 2 rfl (by kernel_rfl) (by kernel_rfl) (by kernel_rfl) rfl rfl (Yl.load on5 rfl (by repeat (first | exact Take1.head | apply Take1.tail)) (by rfl)) rfl ?_ -- t34
    refine WD.take 3 rfl (by kernel_rfl) (by kernel_rfl) (by kernel_rfl) rfl rfl (Yl.move rfl) rfl ?_ -- t35
    refine WD.take 4 rfl (by kernel_rfl) (by kernel_rfl) (by kernel_rfl) rfl rfl (Yl.field fo40_1 rfl) rfl ?_ -- t36
    refine WD.take 5 rfl (by kernel_rfl) (by kernel_rfl) (by kernel_rfl) rfl rfl (Yl.load on5 rfl (by repeat (first | exact Take1.head | apply Take1.tail)) (by rfl)) rfl ?_ -- t37
    refine WD.take 6 rfl (by kernel_rfl) (by kernel_rfl) (by kernel_rfl) rfl rfl (Yl.build rfl (cs := Ky.zero.cells) (fun _ => by kernel_rfl)) rfl ?_ -- t38
    refine WD.take 7 rfl (by kernel_rfl) (by kernel_rfl) (by kernel_rfl) rfl rfl (Yl.nilCheck rfl) rfl ?_ -- t39
    refine WD.take 8 rfl (by kernel_rfl) (by kernel_rfl) (by kernel_rfl) rfl rfl (Yl.field fo87_1 rfl) rfl ?_ -- t40
    refine WD.take 9 rfl (by kernel_rfl) (by kernel_rfl) (by kernel_rfl) rfl rfl (Yl.indexA un85 sz4 rfl rfl rfl (by omega)) rfl ?_ -- t41
    refine WD.take 11 rfl (by kernel_rfl) (by kernel_rfl) (by kernel_rfl) rfl rfl (Yl.nilCheck rfl) rfl ?_ -- t42
    refine WD.take 12 rfl (by kernel_rfl) (by kernel_rfl) (by kernel_rfl) rfl rfl (Yl.field fo87_0 rfl) rfl ?_ -- t43
    refine WD.one 10 (by kernel_rfl) ?_
    refine WO.sto rfl rfl .no (Sto.oneP (T := 87) (cs := c.cells) sz4 rfl rfl (by repeat (first | exact Take1.head | apply Take1.tail)) rfl (by rw [Ct.len hok]; omega) (Ct.setHas' hok hi false (by omega))) ⟨_, (by repeat (first | exact TakeL.nil | (apply TakeL.cons; · repeat (first | exact Take1.head | apply Take1.tail))))⟩ ?_
    refine WD.take 13 rfl (by kernel_rfl) (by kernel_rfl) (by kernel_rfl) rfl rfl (Yl.indexA un84 sz30 rfl rfl rfl (by omega)) rfl ?_ -- t44
    refine WD.one 14 (by kernel_rfl) ?_
    refine WO.sto rfl rfl .no (Sto.aggP (T := 87) (cs := ({ c with has := c.has.set i false } : Ct).cells) sz30 rfl rfl (by repeat (first | exact Take1.head | apply Take1.tail)) Ky.zero.ones Ky.zero.clen (by rw [Ct.len (Ct.okHas hok i false)]; omega) (Ct.setKey' (Ct.okHas hok i false) hi Ky.zero (by omega) (by omega))) ⟨_, (by repeat (first | exact TakeL.nil | (apply TakeL.cons; · repeat (first | exact Take1.head | apply Take1.tail))))⟩ ?_
    refine WD.done (by kernel_rfl) ?_
    refine WC.midX (α := Unit) (fun _ => [(0, .pointer (some ⟨b, 0, none⟩)), (3, .pointer (some ⟨b3, 0, none⟩)), (6, .pointer (some ⟨nb, 0, none⟩))]) (fun _ => [blkR b3 40 [.int .u8 a, .int .u8 (i : Int)], blkR nb 87 (forgetT c i).cells, blkR b 82 [.int .u8 acc, .slice ao own.length cp, .map (some mb)], rwK (.slice ao own.length cp) own.length own, mapR (Value.int .u8) ptV mb (pm es), allR ((es.eraseIdx j).map ctR)]) (fun _ => True) ?_ ?_
    · refine WC.seq ?_
      refine WC.region ?_
      refine WL.y (Yl.move rfl) rfl ?_ -- t45
      refine WL.y (Yl.nilCheck rfl) rfl ?_ -- t46
      refine WL.y (Yl.field fo87_2 rfl) rfl ?_ -- t47
      refine WL.y (Yl.load (T := 87) (cs := (⟨c.ks.set i Ky.zero, c.has.set i false, c.st⟩ : Ct).cells) on5 rfl (by repeat (first | exact Take1.head | apply Take1.tail)) (Ct.stAt hokM)) rfl ?_
      refine WL.y (Yl.eql rfl rfl) rfl ?_ -- t49
      refine WL.nil ?_
      refine WC.condD rfl (fun g49 => ?_) (fun g49 => ?_)
      · refine WC.region ?_
        refine WL.y (Yl.move rfl) rfl ?_ -- t50
        refine WL.y (Yl.nilCheck rfl) rfl ?_ -- t51
        refine WL.y (Yl.field fo87_2 rfl) rfl ?_ -- t52
        refine WL.sto (Sto.oneP (T := 87) (cs := (⟨c.ks.set i Ky.zero, c.has.set i false, c.st⟩ : Ct).cells) sz5 rfl rfl (by repeat (first | exact Take1.head | apply Take1.tail)) rfl (by rw [Ct.len hokM]; omega) (Ct.setSt hokM 3)) (fun _ h => nomatch h) ?_
        refine WL.nil ?_
        have e : forgetT c i = ⟨c.ks.set i Ky.zero, c.has.set i false, 3⟩ := by unfold forgetT; rw [if_pos g49]
        rw [e]
        exact ⟨rfl, (), trivial, (by repeat (first | exact Sub.nil | refine Sub.cons rfl ?_)), _, (by repeat (first | exact TakeL.nil | (apply TakeL.cons; · repeat (first | exact Take1.head | apply Take1.tail))))⟩
      · refine WC.skip ?_
        have e : forgetT c i = ⟨c.ks.set i Ky.zero, c.has.set i false, c.st⟩ := by unfold forgetT; rw [if_neg g49]
        rw [e]
        exact ⟨rfl, (), trivial, (by repeat (first | exact Sub.nil | refine Sub.cons rfl ?_)), _, (by repeat (first | exact TakeL.nil | (apply TakeL.cons; · repeat (first | exact Take1.head | apply Take1.tail))))⟩
    · rintro ⟨⟩ -
      refine WC.seq ?_
      refine WC.seq ?_
      refine WC.region ?_
      refine WL.y (Yl.move rfl) rfl ?_ -- t53
      refine WL.callC (xs := [.tmp 53]) (cap := []) rfl rfl en38 (by repeat (first | exact TakeL.nil | (apply TakeL.cons; · repeat (first | exact Take1.head | apply Take1.tail)))) (fun w hw => all_any nb (forgetT c i) hokF w hw.left.here) rfl ?_ -- t54 (*hailer/trust.contact).all
      rintro ⟨a54, c54⟩ -
      dsimp only [List.cons_append, List.nil_append]
      refine WL.y (Yl.len un22 rfl) rfl ?_ -- t55
      refine WL.y (Yl.eql rfl rfl) rfl ?_ -- t56
      refine WL.nil ?_
      refine WC.condD rfl (fun g56 => ?_) (fun g56 => ?_)
      · refine WC.drawTail 6 mixed (by kernel_rfl) ?_
        refine WH.y (Yl.move rfl) rfl ?_ -- t57
        refine WH.y (Yl.nilCheck rfl) rfl ?_ -- t58
        refine WH.y (Yl.field fo82_2 rfl) rfl ?_ -- t59
        refine WH.y (Yl.load on80 rfl (by repeat (first | exact Take1.head | apply Take1.tail)) (by rfl)) rfl ?_ -- t60
        refine WH.y (Yl.field fo40_0 rfl) rfl ?_ -- t61
        refine WH.y (Yl.load on5 rfl (by repeat (first | exact Take1.head | apply Take1.tail)) (by rfl)) rfl ?_ -- t62
        refine WH.nil ?_
        refine WP.eff (Eff.mapDel (q := a) (m := pm es) (kv := Value.int .u8) (vv := ptV) keyU8 un80 hE.pmk rfl rfl (u8_wf ha) (by repeat (first | exact Take1.head | apply Take1.tail))) ?_
        refine WP.nil ?_
        refine WC.seq ?_
        refine WC.region ?_
        refine WL.y (Yl.assign rfl) rfl ?_ -- t4
        refine WL.nil ?_
        refine WC.ret ?_
        repeat (first | (with_reducible refine peelT ?_) | (with_reducible refine peelB ?_) | (with_reducible refine peelTX ?_) | (with_reducible refine peelBX ?_) | (with_reducible refine peelBN ?_) | (with_reducible refine peelBO rfl ?_))
        have h0 : (forgetT c i).kys.length = 0 := by omega
        have hx := hE.erase hj
        refine ret1 (.inr rfl) Tryz.results21 rfl fun w' h => ⟨es.eraseIdx j, ⟨by rw [if_pos rfl, if_pos h0]; exact hx.2.1, hx.1⟩, by rw [if_pos rfl], ?_⟩
        rw [← hx.2.2] at h
        exact h.sub (by repeat (first | exact TakeL.nil | (apply TakeL.cons; · repeat (first | exact Take1.head | apply Take1.tail))))
      · refine WC.skip ?_
        refine WC.seq ?_
        refine WC.region ?_
        refine WL.y (Yl.assign rfl) rfl ?_ -- t4
        refine WL.nil ?_
        refine WC.ret ?_
        repeat (first | (with_reducible refine peelT ?_) | (with_reducible refine peelB ?_) | (with_reducible refine peelTX ?_) | (with_reducible refine peelBX ?_) | (with_reducible refine peelBN ?_) | (with_reducible refine peelBO rfl ?_))
        have h0 : ¬ (forgetT c i).kys.length = 0 := by omega
        have hs := hE.set hj (c' := forgetT c i) hokF
        refine ret1 (.inr rfl) Tryz.results21 rfl fun w' h => ⟨es.set j (a, nb, forgetT c i), ⟨by rw [if_pos rfl, if_neg h0]; exact hs.2, hs.1⟩, by rw [if_pos rfl], ?_⟩
        rw [← pm_same (c' := forgetT c i) hj] at h
        exact (OK.allIn (f := ctR) (l := es) (i := j) (x := (a, nb, forgetT c i)) h (by repeat (first | exact TakeL.nil | (apply TakeL.cons; · repeat (first | exact Take1.head | apply Take1.tail)))) hjl).sub (by repeat (first | exact TakeL.nil | (apply TakeL.cons; · repeat (first | exact Take1.head | apply Take1.tail))))
theorem forget_any (b : Nat) (ao : Option Addr) (cp mb : Nat) (acc : Int) (own : List Ky) (es : Es) (hE : EG es) (a : Int) (ha : 0 ≤ a ∧ a < 256) (i : Nat) (hi : i < 4) (hm : mayF acc a (i : Int) = 0) (w : World) (hw : OK w (fpL (bkL b ao cp mb acc own es)) (bkL b ao cp mb acc own es) w) :
    Fn Tryz.prog 21 [.pointer (some ⟨b, 0, none⟩), .agg #[.int .u8 a, .int .u8 (i : Int)]] (bkL b ao cp mb acc own es) w (fun es' : Es => pj es' = forgetC (pj es) a i ∧ EG es') (fun _ => .int .i64 (fgE (pj es) a i)) (fun es' => bkL b ao cp mb acc own es') := by
  rcases es_cases es a with ⟨h1, h2⟩ | ⟨j, nb, c, hj, h1, h2⟩
  · have e1 : forgetC (pj es) a i = pj es := by unfold forgetC; rw [h2]
    have e2 : fgE (pj es) a i = 4 := by unfold fgE hasAtC; rw [h2]; rfl
    rw [e1, e2]
    exact Calls.mono (forget_no b ao cp mb acc own es hE a ha i hi hm h1 w hw) (by
      rintro e w' ⟨x, _, h2, h3⟩
      exact ⟨es, ⟨rfl, hE⟩, h2, h3⟩)
  · exact forget_old b ao cp mb acc own es hE a ha i hi hm j nb c hj h1 h2 w hw
end Go.Proofs.YtfobhdmhjjafcaaGreatDoorRR

namespace Go.Proofs.YtfobhdmhjjafcaaGreatDoorRR
open Go Go.RowKit
/-- A contact as it stands in a book. -/
def CtI (c : Ct) : Prop := c.ok ∧ (c.st = 1 ∨ c.st = 2 ∨ c.st = 3) ∧ c.kys.length ≠ 0
def Inv (l : Cs) : Prop := ∀ a c, mget l a = some c → CtI c
/-- What a call of a kind may have changed of an account. -/
structure GoodC (k : Int) (l l' : Cs) (a : Int) (q : Bool) : Prop where
  inv : Inv l'
  unk : stOf l' a = 0 ↔ (kysAt l' a).length = 0
  vr : 2 ≤ k → k ≤ 3 → (q = true ↔ stOf l' a = 2)
  stay : stOf l a = 2 → kysAt l a = kysAt l' a → k ≠ 1 → stOf l' a = 2
  go : stOf l a = 2 → kysAt l a ≠ kysAt l' a → stOf l' a ≠ 2
  new : stOf l' a = 2 → stOf l a ≠ 2 → q = true
theorem Inv.nil : Inv [] := fun a c h => by cases h
theorem Inv.unk {l : Cs} (h : Inv l) (a : Int) : stOf l a = 0 ↔ (kysAt l a).length = 0 := by
  unfold stOf kysAt
  cases hc : mget l a with
  | none => simp
  | some c =>
    obtain ⟨_, h2, h3⟩ := h a c hc
    simp only [Option.map_some, Option.getD_some]
    constructor
    · intro h; omega
    · intro h; exact absurd h h3
theorem Inv.put {l : Cs} (h : Inv l) (hd : mnd l) {a : Int} {c : Ct} (hc : CtI c) : Inv (mput l a c) := by
  intro b d hb
  rw [mget_put hd] at hb
  split at hb
  · cases hb; exact hc
  · exact h b d hb
theorem Inv.del {l : Cs} (h : Inv l) (hd : mnd l) (a : Int) : Inv (mdel l a) := by
  intro b d hb
  rw [mget_del hd] at hb
  split at hb
  · cases hb
  · exact h b d hb
theorem GoodC.same {k : Int} {l : Cs} (h : Inv l) (a : Int) (hk : k < 2 ∨ 3 < k ∨ stOf l a ≠ 2) : GoodC k l l a false :=
  ⟨h, h.unk a, fun h1 h2 => ⟨fun h => (by cases h), fun h => by
    rcases hk with hk | hk | hk
    · omega
    · omega
    · exact absurd h hk⟩, fun h _ _ => h, fun _ h => absurd rfl h, fun h1 h2 => absurd h1 h2⟩
theorem stOf_put {l : Cs} (hd : mnd l) (a : Int) (c : Ct) : stOf (mput l a c) a = c.st := by unfold stOf; rw [mget_put hd, if_pos rfl]; rfl
theorem kysAt_put {l : Cs} (hd : mnd l) (a : Int) (c : Ct) : kysAt (mput l a c) a = c.kys := by unfold kysAt; rw [mget_put hd, if_pos rfl]; rfl
theorem kys_len_set : ∀ (ks : List Ky) (bs : List Bool) (i : Nat) (k : Ky), i < ks.length → i < bs.length → (kysOf (ks.set i k) (bs.set i true)).length ≠ 0
  | k0 :: ks, b :: bs, 0, k, _, _ => by simp [kysOf]
  | k0 :: ks, b :: bs, i + 1, k, h1, h2 => by
    have ih := kys_len_set ks bs i k (by simpa using h1) (by simpa using h2)
    rw [List.set_cons_succ, List.set_cons_succ]
    unfold kysOf
    split
    · simp
    · exact ih
theorem kys_same : ∀ (ks : List Ky) (bs : List Bool) (i : Nat) (k : Ky), i < ks.length → i < bs.length → kysOf ks bs = kysOf (ks.set i k) (bs.set i true) → bs[i]? = some true ∧ ks[i]? = some k
  | k0 :: ks, b :: bs, 0, k, _, _, h => by
    rw [List.set_cons_zero, List.set_cons_zero] at h
    unfold kysOf at h
    rw [if_pos rfl] at h
    cases b with
    | true => rw [if_pos rfl] at h; cases h; exact ⟨rfl, rfl⟩
    | false =>
      rw [if_neg (by decide)] at h
      have := congrArg List.length h
      simp at this
  | k0 :: ks, b :: bs, i + 1, k, h1, h2, h => by
    rw [List.set_cons_succ, List.set_cons_succ] at h
    unfold kysOf at h
    have ih := kys_same ks bs i k (by simpa using h1) (by simpa using h2)
    rw [List.getElem?_cons_succ, List.getElem?_cons_succ]
    cases b with
    | true => rw [if_pos rfl, if_pos rfl] at h; exact ih (List.cons.inj h).2
    | false => rw [if_neg (by decide), if_neg (by decide)] at h; exact ih h
theorem kys_set_same (ks : List Ky) (bs : List Bool) (i : Nat) (k : Ky) (h1 : bs[i]? = some true) (h2 : ks[i]? = some k) : kysOf (ks.set i k) (bs.set i true) = kysOf ks bs := by
  obtain ⟨l1, e1⟩ := List.getElem?_eq_some_iff.1 h1
  obtain ⟨l2, e2⟩ := List.getElem?_eq_some_iff.1 h2
  have a1 : bs.set i true = bs := by
    have := List.set_getElem_self l1
    rwa [e1] at this
  have a2 : ks.set i k = ks := by
    have := List.set_getElem_self l2
    rwa [e2] at this
  rw [a1, a2]
theorem learn_good {l : Cs} (h : Inv l) (hd : mnd l) (a : Int) {i : Nat} (hi : i < 4) (k : Ky) : GoodC 0 l (learnC l a i k) a false := by
  have hc : (ctOf l a).ok ∧ ((ctOf l a).st = 1 ∨ (ctOf l a).st = 2 ∨ (ctOf l a).st = 3) := by
    unfold ctOf
    cases hc : mget l a with
    | none => exact ⟨newCt_ok, .inl rfl⟩
    | some c => exact ⟨(h a c hc).1, (h a c hc).2.1⟩
  have h1 : (ctOf l a).has.length = 4 := hc.1.hl
  have h2 : (ctOf l a).ks.length = 4 := hc.1.kl
  have hI : CtI (learnT (ctOf l a) i k) := by
    refine ⟨learnT_ok hc.1 i k, ?_, ?_⟩
    · unfold learnT
      dsimp only
      split
      · exact .inr (.inr rfl)
      · exact hc.2
    · unfold learnT Ct.kys
      exact kys_len_set _ _ i k (by omega) (by omega)
  have hget : stOf l a = 2 → ∃ c, mget l a = some c ∧ ctOf l a = c ∧ c.st = 2 := by
    unfold stOf ctOf
    cases hc : mget l a with
    | none => intro h; cases h
    | some c => exact fun h => ⟨c, rfl, rfl, h⟩
  unfold learnC
  refine ⟨h.put hd hI, (h.put hd hI).unk a, fun h => by omega, ?_, ?_, ?_⟩
  · intro s2 hk _
    obtain ⟨c, g1, g2, g3⟩ := hget s2
    rw [kysAt_put hd, g2] at hk
    rw [stOf_put hd, g2]
    rw [g2] at h1 h2
    unfold kysAt at hk
    rw [g1] at hk
    obtain ⟨k1, k2⟩ := kys_same c.ks c.has i k (by omega) (by omega) hk
    unfold learnT
    dsimp only
    rw [if_neg, g3]
    rintro ⟨_, hs⟩
    rw [List.getD_eq_getElem?_getD, List.getD_eq_getElem?_getD, k1, k2] at hs
    simp at hs
  · intro s2 hk
    obtain ⟨c, g1, g2, g3⟩ := hget s2
    rw [kysAt_put hd, g2] at hk
    rw [stOf_put hd, g2]
    rw [g2] at h1 h2
    unfold kysAt at hk
    rw [g1] at hk
    intro hs
    unfold learnT at hs
    dsimp only at hs
    split at hs
    · cases hs
    · rename_i hn
      refine hk ?_
      have hb : c.has[i]? = some c.has[i] := List.getElem?_eq_getElem (by omega)
      have hkk : c.ks[i]? = some c.ks[i] := List.getElem?_eq_getElem (by omega)
      rw [List.getD_eq_getElem?_getD, List.getD_eq_getElem?_getD, hb, hkk] at hn
      have h5 : c.has[i] = true ∧ c.ks[i] = k := by
        refine Classical.byContradiction fun hx => hn ⟨g3, ?_⟩
        simp only [Option.getD_some]
        cases hy : c.has[i] with
        | false => rfl
        | true =>
          have : ¬ c.ks[i] = k := fun e => hx ⟨hy, e⟩
          simp [this]
      exact (kys_set_same c.ks c.has i k (by rw [hb, h5.1]) (by rw [hkk, h5.2])).symm
  · intro s2 s1
    rw [stOf_put hd] at s2
    unfold learnT at s2
    dsimp only at s2
    split at s2
    · cases s2
    · exfalso
      refine s1 ?_
      unfold stOf
      unfold ctOf at s2
      cases hc : mget l a with
      | none => rw [hc] at s2; cases s2
      | some c => rw [hc] at s2; exact s2
theorem forget_good {l : Cs} (h : Inv l) (hd : mnd l) (a : Int) (i : Nat) : GoodC 1 l (forgetC l a i) a false := by
  unfold forgetC
  cases hc : mget l a with
  | none => exact GoodC.same h a (.inl (by decide))
  | some c =>
    dsimp only
    split
    · have hst : (forgetT c i).st ≠ 2 := by
        unfold forgetT
        dsimp only
        split
        · decide
        · assumption
      split
      · have hs : stOf (mdel l a) a = 0 := by unfold stOf; rw [mget_del hd, if_pos rfl]; rfl
        exact ⟨h.del hd a, (h.del hd a).unk a, fun h => by omega, fun _ _ h => absurd rfl h, fun _ _ => by rw [hs]; decide, fun h => by rw [hs] at h; cases h⟩
      · rename_i hn
        have hI : CtI (forgetT c i) := by
          refine ⟨forgetT_ok (h a c hc).1 i, ?_, hn⟩
          have := (h a c hc).2.1
          unfold forgetT
          dsimp only
          split
          · exact .inr (.inr rfl)
          · exact this
        refine ⟨h.put hd hI, (h.put hd hI).unk a, fun h => by omega, fun _ _ h => absurd rfl h, fun _ _ => by rw [stOf_put hd]; exact hst, fun h => ?_⟩
        rw [stOf_put hd] at h
        exact absurd h hst
    · exact GoodC.same h a (.inl (by decide))
theorem setSt_inv {l : Cs} (h : Inv l) (hd : mnd l) (a : Int) {s : Int} (hs : s = 1 ∨ s = 2 ∨ s = 3) : Inv (setSt l a s) := by
  unfold setSt
  cases hc : mget l a with
  | none => exact h
  | some c => exact h.put hd ⟨⟨(h a c hc).1.kl, (h a c hc).1.hl⟩, hs, (h a c hc).2.2⟩
theorem setSt_kys {l : Cs} (hd : mnd l) (a : Int) (s : Int) : kysAt (setSt l a s) a = kysAt l a := by
  unfold setSt
  cases hc : mget l a with
  | none => rfl
  | some c => dsimp only; rw [kysAt_put hd]; unfold kysAt; rw [hc]; rfl
theorem setSt_st {l : Cs} (hd : mnd l) (a : Int) (s : Int) (hk : (kysAt l a).length ≠ 0) : stOf (setSt l a s) a = s := by
  unfold setSt
  cases hc : mget l a with
  | none => unfold kysAt at hk; rw [hc] at hk; exact absurd rfl hk
  | some c => dsimp only; rw [stOf_put hd]
theorem ver_good {k : Int} {l : Cs} (h : Inv l) (hd : mnd l) (a : Int) (n : List Int) (hn : bareF n = n) (hz : (kysAt l a).length ≠ 0 → True) :
    GoodC k l (verC l a n n) a (decide (verE (kysAt l a) n n = 0)) := by
  unfold verC verE
  split
  · rename_i h0
    have h1 : stOf l a = 0 := (h.unk a).2 h0
    exact GoodC.same h a (.inr (.inr (by rw [h1]; decide)))
  · rename_i h0
    have hs := setSt_st hd a 2 h0
    exact ⟨setSt_inv h hd a (.inr (.inl rfl)), (setSt_inv h hd a (.inr (.inl rfl))).unk a, fun _ _ => ⟨fun _ => hs, fun _ => rfl⟩, fun _ _ _ => hs, fun _ hk => absurd (setSt_kys hd a 2).symm hk, fun _ _ => rfl⟩
theorem accept_good {k : Int} {l : Cs} (h : Inv l) (hd : mnd l) (a : Int) (hk : 3 < k) : GoodC k l (if stOf l a = 3 then setSt l a 1 else l) a false := by
  split
  · rename_i h3
    have h0 : (kysAt l a).length ≠ 0 := fun h0 => by rw [(h.unk a).2 h0] at h3; cases h3
    have hs := setSt_st hd a 1 h0
    exact ⟨setSt_inv h hd a (.inl rfl), (setSt_inv h hd a (.inl rfl)).unk a, fun _ _ => by omega, fun h2 => (by rw [h3] at h2; cases h2), fun h2 => (by rw [h3] at h2; cases h2), fun h2 => (by rw [hs] at h2; cases h2)⟩
  · exact GoodC.same h a (.inr (.inl hk))
end Go.Proofs.YtfobhdmhjjafcaaGreatDoorRR

namespace Go.Proofs.YtfobhdmhjjafcaaGreatDoorRR
open Go Go.RowKit
set_option maxRecDepth 100000
theorem bulk_mem {H : Type} {d : DataW H} {l : List (DataW H)} (h : d ∈ l) : Rows.uptoBulk d ≤ Rows.uptoBulkAll l := by
  induction l with
  | nil => cases h
  | cons x r ih =>
    simp only [Rows.uptoBulkAll]
    cases List.mem_cons.1 h with
    | inl e => subst e; omega
    | inr e => have := ih e; omega
theorem bulk_one {H : Type} (d : DataW H) : 1 ≤ Rows.uptoBulk d := by
  cases d with
  | lit l => cases l <;> simp [Rows.uptoBulk]
  | nil => simp [Rows.uptoBulk]
  | ptr d => simp [Rows.uptoBulk]
  | slice elems spare => simp [Rows.uptoBulk]
  | agg parts => simp [Rows.uptoBulk]
  | iface t d => simp [Rows.uptoBulk]
  | map entries => simp [Rows.uptoBulk]
  | held h => simp [Rows.uptoBulk]
theorem bulk_len {H : Type} (l : List (DataW H)) : l.length ≤ Rows.uptoBulkAll l := by
  induction l with
  | nil => simp [Rows.uptoBulkAll]
  | cons x r ih => have := bulk_one x; simp only [Rows.uptoBulkAll, List.length_cons]; omega
theorem bulkMu {H : Type} : Mu (Rows.uptoBulk (H := H)) where
  len := fun elems spare => by have := bulk_len elems; simp only [Rows.uptoBulk]; omega
  elem := fun elems spare d h => by have := bulk_mem h; simp only [Rows.uptoBulk]; omega
  agg := fun parts d h => by have := bulk_mem h; simp only [Rows.uptoBulk]; omega
theorem mx_int {w : World} (h : w.ShapedOpen Tryz.prog) : ∃ m, Rd w 1 mxV 1 [.int .i64 m] := by
  obtain ⟨m, hm⟩ : ∃ m, w.cell? ⟨0, 0, none⟩ = some (.int .i64 m) := cell_of_shapedOpen_int (g := 0) (t := 3) (zero := #[.int .i64 0]) (k := .i64) h (of_decide_eq_true (by kernel_rfl)) (by kernel_rfl) rfl (by kernel_rfl) (by kernel_rfl) (by kernel_rfl)
  refine ⟨m, rfl, .inr ⟨_, _, rfl, Nat.le_refl _, by unfold maxLen; omega, fun j u hj => ⟨rfl, ?_⟩⟩⟩
  cases j with
  | zero => cases hj; exact hm
  | succ j => simp at hj
theorem key_of {cs : List Value} (h : Fits1 (List.replicate 32 (some .u8)) cs) : ∃ k : Ky, cs = k.cells := by
  obtain ⟨ys, rfl, h1, h2⟩ := fits_bytes h
  exact ⟨⟨ys, h1, h2⟩, rfl⟩
section
variable {H : Type} {enc : TypeId × Value → H} {w : World} {base : Nat} {sp : Nat → Bool} {held : Bool}
theorem open_keys {a : Option Addr} {len cap : Nat} {x : DataW H} {p : List MemPlace} (h : DataW.Trod enc Tryz.prog w base sp held 22 (.slice a len cap) x p) :
    ∃ ks : List Ky, ks.length = len ∧ len ≤ Rows.uptoBulk x ∧ Rd w 32 (.slice a len cap) len (vcs kyV ks) := by
  obtain ⟨xss, h1, h2, h3⟩ := open_flats (d := 5) (ks := List.replicate 32 (some .u8)) un22 (by kernel_rfl) (by kernel_rfl) h
  obtain ⟨fuel, ht⟩ := h
  have hm := mu_slice bulkMu un22 ht
  have : ∃ ks : List Ky, xss = ks.map Ky.cells := by
    clear h1 h3
    induction xss with
    | nil => exact ⟨[], rfl⟩
    | cons ys xss ih =>
      obtain ⟨ks, rfl⟩ := ih (fun zs hz => h2 zs (by simp [hz]))
      obtain ⟨k, rfl⟩ := key_of (h2 ys (by simp)).1
      exact ⟨k :: ks, rfl⟩
  obtain ⟨ks, rfl⟩ := this
  refine ⟨ks, by rw [← h1, List.length_map], hm, ?_⟩
  have e : (ks.map Ky.cells).flatten = vcs kyV ks := by
    clear h1 h2 h3
    induction ks with
    | nil => rfl
    | cons k ks ih => rw [List.map_cons, List.flatten_cons, ih, vcs_cons, kyV_cells]
  rw [← e]
  exact h3
theorem open_key {v : Value} {x : DataW H} {p : List MemPlace} {r : Reach} {b : Nat} (hv : Value.okWide Tryz.prog w r b 30 v) (h : DataW.Trod enc Tryz.prog w base sp held 30 v x p) : ∃ k : Ky, v = kyV k := by
  have hf := open_flat (d := 5) (ks := List.replicate 32 (some .u8)) (by kernel_rfl) h
  simp only [Value.okWide, un30] at hv
  obtain ⟨cs, rfl, _⟩ := hv
  obtain ⟨k, hk⟩ := key_of hf
  refine ⟨k, ?_⟩
  unfold kyV
  rw [← hk]
  simp [Value.cells]
end
end Go.Proofs.YtfobhdmhjjafcaaGreatDoorRR

namespace Go.Proofs.YtfobhdmhjjafcaaGreatDoorRR
open Go Go.RowKit
/-- A call, as it came in. -/
structure Du where
  k : Int
  a : Int
  d : Int
  key : Ky
  t : ByteArray
def Du.cells (x : Du) : List Value := .int .u8 x.k :: .int .u8 x.a :: .int .u8 x.d :: (x.key.cells ++ [.string x.t])
def duV (x : Du) : Value := .agg x.cells.toArray
structure Du.ok (x : Du) : Prop where
  k : 0 ≤ x.k ∧ x.k < 256
  a : 0 ≤ x.a ∧ x.a < 256
  d : 0 ≤ x.d ∧ x.d < 256
theorem Du.clen (x : Du) : x.cells.length = 36 := by unfold Du.cells; simp [Ky.clen]
theorem Du.ones (x : Du) : ∀ v ∈ x.cells, v.oneCell' = true := by
  intro v hv
  simp only [Du.cells, List.mem_cons, List.mem_append, List.not_mem_nil, or_false] at hv
  rcases hv with rfl | rfl | rfl | hv | rfl
  · rfl
  · rfl
  · rfl
  · exact x.key.ones v hv
  · rfl
def Du.zero : Du := ⟨0, 0, 0, Ky.zero, ⟨#[]⟩⟩
theorem vtDu : VT Tryz.prog 50 36 (fun _ : Du => True) duV := .agg (cel := Du.cells) (by kernel_rfl) (by kernel_rfl) (by decide) (fun _ => rfl) (fun x _ => x.clen) (fun r => r.ones)
theorem Du.keyC (x : Du) : (x.cells.drop 3).take 32 = x.key.cells := by
  show (x.key.cells ++ [Value.string x.t]).take 32 = _
  exact List.take_left' x.key.clen
theorem mayF_two {acc a d : Int} (h : ¬ mayF acc a d = 0) : mayF acc a d = 2 := by
  unfold mayF at h ⊢
  split
  · rfl
  · rename_i h1; rw [if_neg h1] at h; exact absurd rfl h
theorem mayF_zero {acc a d : Int} (h : mayF acc a d = 0) : d < 4 := by
  unfold mayF at h
  split at h
  · cases h
  · rename_i h1; omega
theorem learn_x (b : Nat) (ao : Option Addr) (cp mb : Nat) (acc : Int) (own : List Ky) (es : Es) (hE : EG es) (hI : Inv (pj es)) (a d : Int) (ha : 0 ≤ a ∧ a < 256) (hd : 0 ≤ d ∧ d < 256) (k : Ky) (w : World) (hw : OK w (fpL (bkL b ao cp mb acc own es)) (bkL b ao cp mb acc own es) w) :
    Fn Tryz.prog 14 [.pointer (some ⟨b, 0, none⟩), .agg #[.int .u8 a, .int .u8 d], kyV k] (bkL b ao cp mb acc own es) w (fun y : Es × Value => EG y.1 ∧ GoodC 0 (pj es) (pj y.1) a false) (fun y => y.2) (fun y => bkL b ao cp mb acc own y.1) := by
  by_cases hm : mayF acc a d = 0
  · have hd4 := mayF_zero hm
    obtain ⟨i, rfl⟩ := Int.eq_ofNat_of_zero_le hd.1
    refine Calls.mono (learn_any b ao cp mb acc own es hE a ha i (by omega) k hm w hw) ?_
    rintro e w' ⟨es', ⟨h1, h2⟩, h3, h4⟩
    exact ⟨(es', _), ⟨h2, by rw [h1]; exact learn_good hI hE.nd a (by omega) k⟩, h3, h4⟩
  · refine Calls.mono (lift (c := ⟨Tryz.prog, none, 0, w, fpL (bkL b ao cp mb acc own es)⟩) (.cons .head .nil) (fun w' hw' => learn_bad b (.slice ao own.length cp) (.map (some mb)) acc a d k (mayF_two hm) w' hw'.left.here) w hw) ?_
    rintro e w' ⟨_, _, h3, h4⟩
    exact ⟨(es, _), ⟨hE, GoodC.same hI a (.inl (by decide))⟩, h3, h4⟩
theorem forget_x (b : Nat) (ao : Option Addr) (cp mb : Nat) (acc : Int) (own : List Ky) (es : Es) (hE : EG es) (hI : Inv (pj es)) (a d : Int) (ha : 0 ≤ a ∧ a < 256) (hd : 0 ≤ d ∧ d < 256) (w : World) (hw : OK w (fpL (bkL b ao cp mb acc own es)) (bkL b ao cp mb acc own es) w) :
    Fn Tryz.prog 21 [.pointer (some ⟨b, 0, none⟩), .agg #[.int .u8 a, .int .u8 d]] (bkL b ao cp mb acc own es) w (fun y : Es × Value => EG y.1 ∧ GoodC 1 (pj es) (pj y.1) a false) (fun y => y.2) (fun y => bkL b ao cp mb acc own y.1) := by
  by_cases hm : mayF acc a d = 0
  · have hd4 := mayF_zero hm
    obtain ⟨i, rfl⟩ := Int.eq_ofNat_of_zero_le hd.1
    refine Calls.mono (forget_any b ao cp mb acc own es hE a ha i (by omega) hm w hw) ?_
    rintro e w' ⟨es', ⟨h1, h2⟩, h3, h4⟩
    exact ⟨(es', _), ⟨h2, by rw [h1]; exact forget_good hI hE.nd a i⟩, h3, h4⟩
  · refine Calls.mono (lift (c := ⟨Tryz.prog, none, 0, w, fpL (bkL b ao cp mb acc own es)⟩) (.cons .head .nil) (fun w' hw' => forget_bad b (.slice ao own.length cp) (.map (some mb)) acc a d (mayF_two hm) w' hw'.left.here) w hw) ?_
    rintro e w' ⟨_, _, h3, h4⟩
    exact ⟨(es, _), ⟨hE, GoodC.same hI a (.inl (by decide))⟩, h3, h4⟩
theorem numT_bare (acc : Int) (own : List Ky) (a : Int) (l : List Ky) : bareF (numT acc own a l) = numT acc own a l := by
  unfold numT
  split
  · rfl
  · exact bare_of (numF_dig (digF_dig _ _) (digF_dig _ _)).noB
theorem numT_len (acc : Int) (own : List Ky) (a : Int) (l : List Ky) : (numT acc own a l).length ≤ 60 := by
  unfold numT
  split
  · exact Nat.zero_le _
  · rw [numF_len, digF_len, digF_len]; omega
def k9 : Ky := kyOf 9 (by decide)
theorem key_9 (w : World) (hw : OK w (fpL []) [] w) : Fn Tryz.prog 19 [.int .u8 9] [] w (fun _ : Unit => True) (fun _ => kyV k9) (fun _ => []) := key_any 9 (by decide) w hw
/-- Whether lists are the same so far. -/
def SameI (A B : List Ky) (i : Nat) (q : Bool) : Prop := q = true ↔ A.length = B.length ∧ A.take i = B.take i
theorem same_zero (A B : List Ky) : SameI A B 0 (decide ((A.length : Int) = (B.length : Int))) := by
  unfold SameI
  simp
  omega
theorem same_next {A B : List Ky} {i : Nat} (h : SameI A B i true) {x y : Ky} (hx : A[i]? = some x) (hy : B[i]? = some y) : SameI A B (i + 1) (decide (x = y)) := by
  obtain ⟨h1, h2⟩ := h.1 rfl
  unfold SameI
  rw [take_snocK hx, take_snocK hy, h2, decide_eq_true_iff]
  constructor
  · rintro rfl; exact ⟨h1, rfl⟩
  · rintro ⟨_, h3⟩
    have := List.append_cancel_left h3
    exact (List.cons.inj this).1
theorem same_end {A B : List Ky} {i : Nat} {q : Bool} (h : SameI A B i q) (he : q = true → B.length ≤ i) : q = true ↔ A = B := by
  constructor
  · intro hq
    obtain ⟨h1, h2⟩ := h.1 hq
    have := he hq
    rwa [List.take_of_length_le (by omega), List.take_of_length_le (by omega)] at h2
  · rintro rfl
    exact h.2 ⟨rfl, rfl⟩
theorem accept_ok {s : Int} (h : decide ((if s = 3 then (0 : Int) else 6) = 0) = true) : decide (s ≠ 3) = false := by
  by_cases h3 : s = 3
  · exact decide_eq_false (fun h => h h3)
  · rw [if_neg h3] at h; cases h
/-- The law's two tests. -/
theorem test1 {l l' : Cs} {k a : Int} {q : Bool} (h : GoodC k l l' a q) : decide (stOf l' a = 0) = decide (((kysAt l' a).length : Int) = 0) := by
  have := h.unk
  by_cases h1 : stOf l' a = 0
  · rw [decide_eq_true h1, decide_eq_true (by have := this.1 h1; omega)]
  · rw [decide_eq_false h1, decide_eq_false (fun e => h1 (this.2 (by omega)))]
set_option maxHeartbeats 6400000 in
set_option maxRecDepth 100000 in
theorem stays_any (m : Int) (l : List Du) (v : Value) (hG : ∀ x ∈ l, x.ok) (w : World) (hw : OK w (fpL [rdR v 36 l.length (vcs duV l), rdR mxV 1 1 [.int .i64 m]]) [rdR v 36 l.length (vcs duV l), rdR mxV 1 1 [.int .i64 m]] w) :
    Fn Tryz.prog 5 [v] [rdR v 36 l.length (vcs duV l), rdR mxV 1 1 [.int .i64 m]] w (fun _ : Unit => True) (fun _ => .bool true) (fun _ => []) := by
  obtain ⟨al, cl, rfl, hcl, hml⟩ := (hw.get .head : Rd _ _ _ _ _).form
  have hown : (setK [k9]).length ≤ 12 := by have := setK_len [k9]; simp at this; omega
  obtain ⟨own, hown0⟩ : ∃ own, setK [k9] = own := ⟨_, rfl⟩
  rw [hown0] at hown
  refine enterM Tryz.func5 rfl Tryz.ntmps5 rfl hw ?_
  refine WC.seq ?_
  refine WC.region ?_
  refine WL.y (Yl.assign rfl) rfl ?_ -- t2
  refine WL.nil ?_
  refine WC.seq ?_
  refine WC.seq ?_
  refine WC.region ?_
  refine WL.callC (xs := []) (cap := []) rfl rfl en6 (by repeat (first | exact TakeL.nil | (apply TakeL.cons; · repeat (first | exact Take1.head | apply Take1.tail)))) (fun w hw => known_any m w (hw.src (A := []) (r := rdR mxV 1 1 [.int .i64 m]) RdOf.rd' (by repeat (first | exact Take1.head | apply Take1.tail))) hw.left.here) rfl ?_ -- t21 hailer/hailerlaw37.known
  rintro ⟨⟩ -
  refine WL.y (Yl.not rfl) rfl ?_ -- t22
  refine WL.know (t := 22) (b' := false) rfl (by first | rfl | (simp; done) | (simp; omega)) ?_
  refine WL.nil ?_
  refine WC.condF rfl (by first | rfl | (simp; done) | (simp; omega)) ?_
  refine WC.skip ?_
  refine WC.seq ?_
  refine WC.seq ?_
  refine WC.region ?_
  refine WL.y (Yl.move rfl) rfl ?_ -- t23
  refine WL.y (Yl.len un47 rfl) rfl ?_ -- t24
  refine WL.y (Yl.gtr rfl rfl) rfl ?_ -- t25
  refine WL.nil ?_
  refine WC.cond rfl (fun g25 => ?_) (fun g25 => ?_)
  · refine WC.seq ?_
    refine WC.region ?_
    refine WL.y (Yl.assign rfl) rfl ?_ -- t2
    refine WL.nil ?_
    refine WC.ret ?_
    repeat (first | (with_reducible refine peelT ?_) | (with_reducible refine peelB ?_) | (with_reducible refine peelTX ?_) | (with_reducible refine peelBX ?_) | (with_reducible refine peelBN ?_) | (with_reducible refine peelBO rfl ?_))
    refine retM.of .nil ?_
    exact ret1 (.inr rfl) Tryz.results5 rfl fun w' h => ⟨(), trivial, rfl, h.sub (by repeat (first | exact TakeL.nil | (apply TakeL.cons; · repeat (first | exact Take1.head | apply Take1.tail))))⟩
  · refine WC.skip ?_
    refine WC.seq ?_
    refine WC.region ?_
    refine WL.callC (xs := [_]) (cap := []) rfl rfl en19 (by repeat (first | exact TakeL.nil | (apply TakeL.cons; · repeat (first | exact Take1.head | apply Take1.tail)))) (fun w hw => key_9 w hw.left.here) rfl ?_ -- t27 hailer/hailerlaw37.key
    rintro ⟨⟩ -
    refine WL.to (To.buildSlice (vs := [kyV k9]) un22 zs30 rfl rfl (fun v hv => by rw [List.mem_singleton] at hv; subst hv; unfold kyV; simp [Value.cells, Ky.clen]) (by decide) (by decide)) rfl ?_ -- t28
    intro b28
    refine WL.callC (xs := [_, .tmp 28]) (cap := []) rfl rfl en13 (by repeat (first | exact TakeL.nil | (apply TakeL.cons; · repeat (first | exact Take1.head | apply Take1.tail)))) (fun w hw => new_any 0 (.slice (some ⟨b28, 0, none⟩) 1 1) [k9] (by decide) (by decide) w (hw.src (A := []) (RdOf.blk (b := b28) (T := 30) (size := 32) (n := 1) (cs := flat [kyV k9]) (cs' := vcs kyV [k9]) (Nat.le_refl _) (by unfold maxLen; omega) (by simp [flat, kyV, Value.cells, Ky.clen]) (by rw [List.drop_zero, List.take_of_length_le (by simp [flat, kyV, Value.cells, Ky.clen])]; rfl)) (by repeat (first | exact Take1.head | apply Take1.tail))) hw.left.here) rfl ?_ -- t29 hailer/trust.New
    rintro ⟨b, ⟨ao, cp⟩, mb⟩ -
    rw [hown0]
    dsimp only [List.cons_append, List.nil_append]
    refine WL.y (Yl.move rfl) rfl ?_ -- t26
    refine WL.y (Yl.extract rfl rfl) rfl ?_ -- t30
    refine WL.y (Yl.extract rfl rfl) rfl ?_ -- t31
    refine WL.y (Yl.assign rfl) rfl ?_ -- t3
    refine WL.y (Yl.assign rfl) rfl ?_ -- t4
    refine WL.nil ?_
    refine WC.seq ?_
    refine WC.seq ?_
    refine WC.region ?_
    refine WL.y (Yl.move rfl) rfl ?_ -- t32
    refine WL.y (Yl.neq rfl rfl) rfl ?_ -- t33
    refine WL.know (t := 33) (b' := false) rfl (by first | rfl | (simp; done) | (simp; omega)) ?_
    refine WL.nil ?_
    refine WC.condF rfl (by first | rfl | (simp; done) | (simp; omega)) ?_
    refine WC.skip ?_
    refine WC.seq ?_
    refine WC.seq ?_
    refine WC.region ?_
    refine WL.y (Yl.move rfl) rfl ?_ -- t34
    refine WL.y (Yl.len un47 rfl) rfl ?_ -- t35
    refine WL.y (Yl.move rfl) rfl ?_ -- t36
    refine WL.nil ?_
    refine WC.block ?_
    have hl60 : l.length ≤ 60 := by
      have := of_decide_eq_false g25
      omega
    refine WC.view (fun w h => h.mark0) ?_
    refine WC.loopM (α := Nat × Es × List Nat) (fun p => [(0, .slice al l.length cl), (3, .pointer (some ⟨b, 0, none⟩)), (34, .slice al l.length cl), (35, .int .i64 (l.length : Int)), (36, .int .i64 (p.1 : Int))]) (fun p => markR p.2.2 :: (bkL b ao cp mb 0 own p.2.1 ++ [rdR (.slice al l.length cl) 36 l.length (vcs duV l), rdR mxV 1 1 [.int .i64 m]])) (fun p => p.2.2.map dM) (fun p => p.1 ≤ l.length ∧ EG p.2.1 ∧ Inv (pj p.2.1)) (fun p => l.length - p.1) (0, [], []) ⟨Nat.zero_le _, EG.nil, Inv.nil⟩ rfl ⟨(by repeat (first | exact Sub.nil | refine Sub.cons rfl ?_)), _, (by repeat (first | exact TakeL.nil | (apply TakeL.cons; · repeat (first | exact Take1.head | apply Take1.tail))))⟩ ?_
    rintro ⟨i, es, Dl⟩ ⟨hi, hE, hI⟩
    dsimp only at hi hE hI ⊢
    dsimp only [List.cons_append, List.nil_append]
    refine WC.seq ?_
    refine WC.region ?_
    refine WL.y (Yl.lss rfl rfl) rfl ?_ -- t37
    refine WL.nil ?_
    refine WC.seq ?_
    refine WC.condD rfl (fun g37 => ?_) (fun g37 => ?_)
    · refine WC.skip ?_
      refine WC.seq ?_
      refine WC.block ?_
      refine WC.seq ?_
      refine WC.region ?_
      have hil : i < l.length := by omega
      obtain ⟨x, hx0⟩ : ∃ x, l[i]? = some x := ⟨_, List.getElem?_eq_getElem hil⟩
      have hxo : x.ok := hG x (List.mem_of_getElem? hx0)
      refine WL.y (Yl.index un47 sz50 rfl rfl (Reads.of (r := rdR (.slice al l.length cl) 36 l.length (vcs duV l)) RdOf.rd' (by repeat (first | exact Take1.head | apply Take1.tail))) rfl (by omega)) rfl ?_ -- t38
      refine WL.y (Yl.loadV (j := i) (u := x) vtDu (fun _ _ => trivial) rfl (Reads.of (r := rdR (.slice al l.length cl) 36 l.length (vcs duV l)) RdOf.rd' (by repeat (first | exact Take1.head | apply Take1.tail))) rfl hx0) rfl ?_
      refine WL.to (To.alloc (cs := Du.zero.cells) zr50 rfl) rfl ?_ -- t6
      intro b6
      refine WL.sto (Sto.agg sz50 rfl rfl (by repeat (first | exact Take1.head | apply Take1.tail)) x.ones x.clen (by rfl) (putAll rfl)) (fun _ h => nomatch h) ?_ -- st 1
      refine WL.nil ?_
      refine WC.seq ?_
      refine WC.region ?_
      refine WL.y (Yl.field fo50_1 rfl) rfl ?_ -- t40
      refine WL.y (Yl.field fo40_0 rfl) rfl ?_ -- t41
      refine WL.y (Yl.load on5 rfl (by repeat (first | exact Take1.head | apply Take1.tail)) (by rfl)) rfl ?_ -- t42
      refine WL.y (Yl.assign rfl) rfl ?_ -- t7
      refine WL.nil ?_
      refine WC.seq ?_
      refine WC.region ?_
      refine WL.y (Yl.move rfl) rfl ?_ -- t43
      refine WL.y (Yl.move rfl) rfl ?_ -- t44
      refine WL.callC (xs := [.tmp 43, .tmp 44]) (cap := []) rfl rfl en18 (by repeat (first | exact TakeL.nil | (apply TakeL.cons; · repeat (first | exact Take1.head | apply Take1.tail)))) (fun w hw => state_any b ao cp mb 0 own es hE x.a hxo.a w hw.left.here) rfl ?_ -- t45 (*hailer/trust.Book).State
      rintro ⟨⟩ -
      dsimp only [List.cons_append, List.nil_append]
      refine WL.y (Yl.assign rfl) rfl ?_ -- t8
      refine WL.nil ?_
      refine WC.seq ?_
      refine WC.region ?_
      refine WL.to (To.alloc (cs := [.slice none 0 0]) zr22 rfl) rfl ?_ -- t9
      intro b9
      refine WL.to (To.alloc (cs := [.slice none 0 0]) zr22 rfl) rfl ?_ -- t10
      intro b10
      refine WL.nil ?_
      refine WC.seq ?_
      refine WC.seq ?_
      refine WC.region ?_
      refine WL.y (Yl.move rfl) rfl ?_ -- t46
      refine WL.y (Yl.move rfl) rfl ?_ -- t47
      refine WL.callC (xs := [.tmp 46, .tmp 47]) (cap := []) rfl rfl en20 (by repeat (first | exact TakeL.nil | (apply TakeL.cons; · repeat (first | exact Take1.head | apply Take1.tail)))) (fun w hw => keys_any b x.a w hw.left.here) rfl ?_ -- t48 (*hailer/trust.Book).Keys
      rintro ⟨b2, b3⟩ -
      dsimp only [List.cons_append, List.nil_append]
      refine WL.nil ?_
      refine WC.block ?_
      have hle := kysAt_le hE x.a
      have hkd := kysAt_devs (pj es) x.a
      obtain ⟨K, hK⟩ : ∃ K, kysAt (pj es) x.a = K := ⟨_, rfl⟩
      rw [hK] at hle hkd
      refine WC.view (fun w h => h.addNil 30 32) ?_
      refine WC.rangeW (α := Option Addr × Nat) (A := keyL b b2 b3 ao cp mb 0 own es x.a) (E := keyL b b2 b3 ao cp mb 0 own es x.a) (Ex := fun _ => keyL b b2 b3 ao cp mb 0 own es x.a) (lb := [.pointer (some ⟨b2, 0, none⟩), .pointer (some ⟨b3, 0, none⟩)]) (xs := ysK x.a (devsAt (pj es) x.a)) (fun i s => [blkR b9 22 [.slice s.1 (K.take i).length s.2], rwK (.slice s.1 (K.take i).length s.2) (K.take i).length (K.take i)]) (fun _ _ => True) (none, 0) rfl en37 (ysK_size x.a _) rfl (by repeat (first | exact TakeL.nil | (apply TakeL.cons; · repeat (first | exact Take1.head | apply Take1.tail)))) (keys_iterW b b2 b3 ao cp mb 0 own es hE x.a hxo.a) rfl (fun _ => rfl) trivial (by repeat (first | exact TakeL.nil | (apply TakeL.cons; · repeat (first | exact Take1.head | apply Take1.tail)))) ?_ ?_
      · rintro l2 n y ⟨a9, c9⟩ hy _ W
        obtain ⟨p, hp, rfl⟩ := ysK_at hy
        have hk : K[n]? = some p.2 := by rw [← hkd, List.getElem?_map, hp]; rfl
        have hnx := take_snocK hk
        have hnl := (List.getElem?_eq_some_iff.1 hk).1
        have hl1 : (K.take n).length = n := by rw [List.length_take]; omega
        have hl2 : (K.take (n + 1)).length = n + 1 := by rw [List.length_take]; omega
        show WC _ _ _ ((50, kyV p.2) :: (49, .agg #[.int .u8 x.a, .int .u8 (p.1 : Int)]) :: _) _ _
        refine WC.region ?_
        refine WL.to (To.alloc (cs := ints .u8 (List.replicate 32 0)) zr30 rfl) rfl ?_ -- t12
        intro b12
        refine WL.sto (Sto.agg sz30 rfl rfl (by repeat (first | exact Take1.head | apply Take1.tail)) p.2.ones p.2.clen (by rfl) (putAll rfl)) (fun _ h => nomatch h) ?_ -- st 2
        refine WL.nil ?_
        repeat (first | (with_reducible refine peelT ?_) | (with_reducible refine peelB ?_) | (with_reducible refine peelTX ?_) | (with_reducible refine peelBX ?_) | (with_reducible refine peelBN ?_) | (with_reducible refine peelBO rfl ?_))
        refine fun W2 => ?_
        refine WC.block ?_
        refine WC.region ?_
        refine WL.y (Yl.load on22 rfl (by repeat (first | exact Take1.head | apply Take1.tail)) (by rfl)) rfl ?_ -- t51
        refine WL.y (Yl.loadN (T := 30) (cs := p.2.cells) (cs' := p.2.cells) ag30 rfl (by repeat (first | exact Take1.head | apply Take1.tail)) (Nat.ble_eq_true_of_le (by rw [p.2.clen]; omega)) (by rw [List.drop_zero, List.take_of_length_le (by rw [p.2.clen]; omega)])) rfl ?_
        refine WL.to (To.buildSlice (vs := [kyV p.2]) un22 zs30 rfl rfl (fun v hv => by rw [List.mem_singleton] at hv; subst hv; unfold kyV; simp [Value.cells, Ky.clen]) (by decide) (by decide)) rfl ?_ -- t53
        intro b53
        refine WL.to (To.append sl22 rfl rfl (by repeat (first | exact Take1.head | apply Take1.tail)) (Reads.of (RdOf.blk (size := 32) (n := 1) (cs := flat [kyV p.2]) (cs' := vcs kyV [p.2]) (Nat.le_refl _) (by unfold maxLen; omega) (by simp [flat, kyV, Value.cells, Ky.clen]) (by rw [List.drop_zero, List.take_of_length_le (by simp [flat, kyV, Value.cells, Ky.clen])]; rfl)) (by repeat (first | exact Take1.head | apply Take1.tail))) (vtK.ones _) (show (K.take n).length + 1 = (K.take (n + 1)).length by omega) (show vcs kyV (K.take n) ++ vcs kyV [p.2] = vcs kyV (K.take (n + 1)) by rw [hnx, vcs_app]) (by unfold maxLen; omega) (by omega)) rfl ?_ -- t54
        rintro ⟨⟨ao54, c54⟩, hc54⟩
        dsimp only at hc54 ⊢
        refine WL.sto (Sto.one sz22 rfl rfl (by repeat (first | exact Take1.head | apply Take1.tail)) rfl (by rfl) (by rfl)) (fun _ h => nomatch h) ?_ -- st 3
        refine WL.nil ?_
        repeat (first | (with_reducible refine peelT ?_) | (with_reducible refine peelB ?_) | (with_reducible refine peelTX ?_) | (with_reducible refine peelBX ?_) | (with_reducible refine peelBN ?_) | (with_reducible refine peelBO rfl ?_))
        exact ⟨[blkR b9 22 [.slice ao54 (K.take (n + 1)).length c54], rwK (.slice ao54 (K.take (n + 1)).length c54) (K.take (n + 1)).length (K.take (n + 1))], _, (by repeat (first | exact TakeL.nil | (apply TakeL.cons; · repeat (first | exact Take1.head | apply Take1.tail)))), (ao54, c54), trivial, rfl⟩
      · rintro ⟨a9, c9⟩ D -
        rw [ysK_len, show (devsAt (pj es) x.a).length = K.length by rw [← hkd, List.length_map], List.take_length]
        dsimp only [keyL, List.cons_append, List.nil_append]
        refine WC.view (fun w h => h.markAdd (D := D) (Dl := Dl) (by repeat (first | exact Take1.head | apply Take1.tail)) (by repeat (first | exact Take1.head | apply Take1.tail))) ?_
        obtain ⟨Dm, hDm⟩ : ∃ Dm, D :: Dl = Dm := ⟨_, rfl⟩
        rw [show (dM D :: Dl.map dM) = Dm.map dM by rw [← hDm]; rfl, hDm]
        refine WC.seq ?_
        refine WC.region ?_
        refine WL.y (Yl.assign rfl) rfl ?_ -- t13
        refine WL.nil ?_
        refine WC.midX (α := Es × Bool) (fun p => [(0, .slice al l.length cl), (3, .pointer (some ⟨b, 0, none⟩)), (34, .slice al l.length cl), (35, .int .i64 (l.length : Int)), (6, .pointer (some ⟨b6, 0, none⟩)), (7, .int .u8 x.a), (8, .int .u8 (stOf (pj es) x.a)), (9, .pointer (some ⟨b9, 0, none⟩)), (10, .pointer (some ⟨b10, 0, none⟩)), (36, .int .i64 (i : Int)), (13, .bool p.2)]) (fun p => markR Dm :: (bkL b ao cp mb 0 own p.1 ++ [blkR b6 50 x.cells, blkR b10 22 [.slice none 0 0], blkR b9 22 [.slice a9 K.length c9], rwK (.slice a9 K.length c9) K.length K, rdR (.slice al l.length cl) 36 l.length (vcs duV l), rdR mxV 1 1 [.int .i64 m]])) (fun p => EG p.1 ∧ GoodC x.k (pj es) (pj p.1) x.a p.2) ?_ ?_
        · refine WC.seq ?_
          refine WC.region ?_
          refine WL.y (Yl.field fo50_0 rfl) rfl ?_ -- t55
          refine WL.y (Yl.load on5 rfl (by repeat (first | exact Take1.head | apply Take1.tail)) (by rfl)) rfl ?_ -- t56
          refine WL.nil ?_
          refine WC.block ?_
          refine WC.seq ?_
          refine WC.region ?_
          refine WL.y (Yl.eql rfl rfl) rfl ?_ -- t58
          refine WL.y (Yl.assign rfl) rfl ?_ -- t57
          refine WL.nil ?_
          refine WC.condD rfl (fun g57 => ?_) (fun g57 => ?_)
          · refine WC.region ?_
            refine WL.y (Yl.move rfl) rfl ?_ -- t59
            refine WL.y (Yl.field fo50_1 rfl) rfl ?_ -- t60
            refine WL.y (Yl.loadN (T := 50) (cs := x.cells) (cs' := [.int .u8 x.a, .int .u8 x.d]) ag40 rfl (by repeat (first | exact Take1.head | apply Take1.tail)) (Nat.ble_eq_true_of_le (by rw [x.clen]; omega)) rfl) rfl ?_
            refine WL.y (Yl.field fo50_2 rfl) rfl ?_ -- t62
            refine WL.y (Yl.loadN (T := 50) (cs := x.cells) (cs' := x.key.cells) ag30 rfl (by repeat (first | exact Take1.head | apply Take1.tail)) (Nat.ble_eq_true_of_le (by rw [x.clen]; omega)) x.keyC) rfl ?_
            refine WL.callC (xs := [.tmp 59, .tmp 61, .tmp 63]) (cap := []) rfl rfl en14 (by repeat (first | exact TakeL.nil | (apply TakeL.cons; · repeat (first | exact Take1.head | apply Take1.tail)))) (fun w hw => learn_x b ao cp mb 0 own es hE hI x.a x.d hxo.a hxo.d x.key w hw.left.here) rfl ?_ -- t64 (*hailer/trust.Book).Learn
            rintro ⟨es', v64⟩ ⟨hE', hG'⟩
            dsimp only [List.cons_append, List.nil_append]
            refine WL.nil ?_
            exact ⟨rfl, (es', false), ⟨hE', by rw [g57]; exact hG'⟩, (by repeat (first | exact Sub.nil | refine Sub.cons rfl ?_)), _, (by repeat (first | exact TakeL.nil | (apply TakeL.cons; · repeat (first | exact Take1.head | apply Take1.tail))))⟩
          · refine WC.seq ?_
            refine WC.region ?_
            refine WL.y (Yl.eql rfl rfl) rfl ?_ -- t66
            refine WL.y (Yl.assign rfl) rfl ?_ -- t65
            refine WL.nil ?_
            refine WC.condD rfl (fun g65 => ?_) (fun g65 => ?_)
            · refine WC.region ?_
              refine WL.y (Yl.move rfl) rfl ?_ -- t67
              refine WL.y (Yl.field fo50_1 rfl) rfl ?_ -- t68
              refine WL.y (Yl.loadN (T := 50) (cs := x.cells) (cs' := [.int .u8 x.a, .int .u8 x.d]) ag40 rfl (by repeat (first | exact Take1.head | apply Take1.tail)) (Nat.ble_eq_true_of_le (by rw [x.clen]; omega)) rfl) rfl ?_
              refine WL.callC (xs := [.tmp 67, .tmp 69]) (cap := []) rfl rfl en21 (by repeat (first | exact TakeL.nil | (apply TakeL.cons; · repeat (first | exact Take1.head | apply Take1.tail)))) (fun w hw => forget_x b ao cp mb 0 own es hE hI x.a x.d hxo.a hxo.d w hw.left.here) rfl ?_ -- t70 (*hailer/trust.Book).Forget
              rintro ⟨es', v70⟩ ⟨hE', hG'⟩
              dsimp only [List.cons_append, List.nil_append]
              refine WL.nil ?_
              exact ⟨rfl, (es', false), ⟨hE', by rw [g65]; exact hG'⟩, (by repeat (first | exact Sub.nil | refine Sub.cons rfl ?_)), _, (by repeat (first | exact TakeL.nil | (apply TakeL.cons; · repeat (first | exact Take1.head | apply Take1.tail))))⟩
            · refine WC.seq ?_
              refine WC.seq ?_
              refine WC.region ?_
              refine WL.y (Yl.eql rfl rfl) rfl ?_ -- t72
              refine WL.y (Yl.assign rfl) rfl ?_ -- t71
              refine WL.nil ?_
              refine WC.condD rfl (fun g71 => ?_) (fun g71 => ?_)
              · refine WC.skip ?_
                refine WC.condT rfl (decide_eq_true g71) ?_
                refine WC.seq ?_
                refine WC.region ?_
                refine WL.y (Yl.move rfl) rfl ?_ -- t75
                refine WL.y (Yl.move rfl) rfl ?_ -- t76
                refine WL.callC (xs := [.tmp 75, .tmp 76]) (cap := []) rfl rfl en16 (by repeat (first | exact TakeL.nil | (apply TakeL.cons; · repeat (first | exact Take1.head | apply Take1.tail)))) (fun w hw => numB_any b ao cp mb 0 own hown es hE x.a hxo.a w hw.left.here) rfl ?_ -- t77 (*hailer/trust.Book).Number
                rintro ⟨⟩ -
                dsimp only [List.cons_append, List.nil_append]
                refine WL.y (Yl.move rfl) rfl ?_ -- t74
                refine WL.y (Yl.extract rfl rfl) rfl ?_ -- t78
                refine WL.y (Yl.extract rfl rfl) rfl ?_ -- t79
                refine WL.y (Yl.assign rfl) rfl ?_ -- t14
                refine WL.y (Yl.assign rfl) rfl ?_ -- t15
                refine WL.nil ?_
                refine WC.region ?_
                refine WL.y (Yl.move rfl) rfl ?_ -- t80
                refine WL.y (Yl.move rfl) rfl ?_ -- t81
                refine WL.y (Yl.move rfl) rfl ?_ -- t82
                refine WL.callC (xs := [.tmp 80, .tmp 81, .tmp 82]) (cap := []) rfl rfl en17 (by repeat (first | exact TakeL.nil | (apply TakeL.cons; · repeat (first | exact Take1.head | apply Take1.tail)))) (fun w hw => verify_any m b ao cp mb 0 own hown es hE x.a hxo.a (numT 0 own x.a (kysAt (pj es) x.a)) (numT_by _ _ _ _) (by have := numT_len 0 own x.a (kysAt (pj es) x.a); omega) w (hw.src (r := rdR mxV 1 1 [.int .i64 m]) RdOf.rd' (by repeat (first | exact Take1.head | apply Take1.tail))) hw.left.here) rfl ?_ -- t83 (*hailer/trust.Book).Verify
                rintro es' ⟨hp', hE'⟩
                dsimp only [List.cons_append, List.nil_append]
                refine WL.y (Yl.eql rfl rfl) rfl ?_ -- t84
                refine WL.y (Yl.assign rfl) rfl ?_ -- t13
                refine WL.nil ?_
                exact ⟨rfl, (es', _), ⟨hE', by rw [hp']; exact ver_good hI hE.nd x.a _ (numT_bare _ _ _ _) (fun _ => trivial)⟩, (by repeat (first | exact Sub.nil | refine Sub.cons rfl ?_)), _, (by repeat (first | exact TakeL.nil | (apply TakeL.cons; · repeat (first | exact Take1.head | apply Take1.tail))))⟩
              · refine WC.region ?_
                refine WL.y (Yl.eql rfl rfl) rfl ?_ -- t73
                refine WL.y (Yl.assign rfl) rfl ?_ -- t71
                refine WL.nil ?_
                refine WC.condD rfl (fun g71 => ?_) (fun g71 => ?_)
                · refine WC.seq ?_
                  refine WC.region ?_
                  refine WL.y (Yl.move rfl) rfl ?_ -- t75
                  refine WL.y (Yl.move rfl) rfl ?_ -- t76
                  refine WL.callC (xs := [.tmp 75, .tmp 76]) (cap := []) rfl rfl en16 (by repeat (first | exact TakeL.nil | (apply TakeL.cons; · repeat (first | exact Take1.head | apply Take1.tail)))) (fun w hw => numB_any b ao cp mb 0 own hown es hE x.a hxo.a w hw.left.here) rfl ?_ -- t77 (*hailer/trust.Book).Number
                  rintro ⟨⟩ -
                  dsimp only [List.cons_append, List.nil_append]
                  refine WL.y (Yl.move rfl) rfl ?_ -- t74
                  refine WL.y (Yl.extract rfl rfl) rfl ?_ -- t78
                  refine WL.y (Yl.extract rfl rfl) rfl ?_ -- t79
                  refine WL.y (Yl.assign rfl) rfl ?_ -- t14
                  refine WL.y (Yl.assign rfl) rfl ?_ -- t15
                  refine WL.nil ?_
                  refine WC.region ?_
                  refine WL.y (Yl.move rfl) rfl ?_ -- t80
                  refine WL.y (Yl.move rfl) rfl ?_ -- t81
                  refine WL.y (Yl.move rfl) rfl ?_ -- t82
                  refine WL.callC (xs := [.tmp 80, .tmp 81, .tmp 82]) (cap := []) rfl rfl en17 (by repeat (first | exact TakeL.nil | (apply TakeL.cons; · repeat (first | exact Take1.head | apply Take1.tail)))) (fun w hw => verify_any m b ao cp mb 0 own hown es hE x.a hxo.a (numT 0 own x.a (kysAt (pj es) x.a)) (numT_by _ _ _ _) (by have := numT_len 0 own x.a (kysAt (pj es) x.a); omega) w (hw.src (r := rdR mxV 1 1 [.int .i64 m]) RdOf.rd' (by repeat (first | exact Take1.head | apply Take1.tail))) hw.left.here) rfl ?_ -- t83 (*hailer/trust.Book).Verify
                  rintro es' ⟨hp', hE'⟩
                  dsimp only [List.cons_append, List.nil_append]
                  refine WL.y (Yl.eql rfl rfl) rfl ?_ -- t84
                  refine WL.y (Yl.assign rfl) rfl ?_ -- t13
                  refine WL.nil ?_
                  exact ⟨rfl, (es', _), ⟨hE', by rw [hp']; exact ver_good hI hE.nd x.a _ (numT_bare _ _ _ _) (fun _ => trivial)⟩, (by repeat (first | exact Sub.nil | refine Sub.cons rfl ?_)), _, (by repeat (first | exact TakeL.nil | (apply TakeL.cons; · repeat (first | exact Take1.head | apply Take1.tail))))⟩
                · refine WC.seq ?_
                  refine WC.region ?_
                  refine WL.y (Yl.eql rfl rfl) rfl ?_ -- t86
                  refine WL.y (Yl.assign rfl) rfl ?_ -- t85
                  refine WL.nil ?_
                  refine WC.condD rfl (fun g85 => ?_) (fun g85 => ?_)
                  · refine WC.seq ?_
                    refine WC.region ?_
                    refine WL.y (Yl.move rfl) rfl ?_ -- t87
                    refine WL.y (Yl.move rfl) rfl ?_ -- t88
                    refine WL.callC (xs := [.tmp 87, .tmp 88]) (cap := []) rfl rfl en22 (by repeat (first | exact TakeL.nil | (apply TakeL.cons; · repeat (first | exact Take1.head | apply Take1.tail)))) (fun w hw => accept_any b ao cp mb 0 own es hE x.a hxo.a w hw.left.here) rfl ?_ -- t89 (*hailer/trust.Book).Accept
                    rintro es' ⟨hp', hE'⟩
                    dsimp only [List.cons_append, List.nil_append]
                    refine WL.y (Yl.eql rfl rfl) rfl ?_ -- t90
                    refine WL.y (Yl.move rfl) rfl ?_ -- t91
                    refine WL.both (t := 91) rfl (fun g91 => ?_) (fun g91 => ?_)
                    · refine WL.on rfl rfl ?_
                      refine WL.y (Yl.move rfl) rfl ?_ -- t92
                      refine WL.on rfl rfl ?_
                      refine WL.y (Yl.neq rfl rfl) rfl ?_ -- t93
                      refine WL.y (Yl.pickT rfl rfl) rfl ?_ -- t94
                      refine WL.know (t := 94) (b' := false) rfl (accept_ok g91) ?_
                      refine WL.nil ?_
                      refine WC.condF rfl (by first | rfl | (simp; done) | (simp; omega)) ?_
                      refine WC.skip ?_
                      exact ⟨rfl, (es', false), ⟨hE', by rw [hp']; exact accept_good hI hE.nd x.a (by omega)⟩, (by repeat (first | exact Sub.nil | refine Sub.cons rfl ?_)), _, (by repeat (first | exact TakeL.nil | (apply TakeL.cons; · repeat (first | exact Take1.head | apply Take1.tail))))⟩
                    · refine WL.off rfl rfl rfl rfl ?_ -- t92
                      refine WL.off rfl rfl rfl rfl ?_ -- t93
                      refine WL.y (Yl.pickF rfl rfl) rfl ?_ -- t94
                      refine WL.know (t := 94) (b' := false) rfl (by first | rfl | (simp; done) | (simp; omega)) ?_
                      refine WL.nil ?_
                      refine WC.condF rfl (by first | rfl | (simp; done) | (simp; omega)) ?_
                      refine WC.skip ?_
                      exact ⟨rfl, (es', false), ⟨hE', by rw [hp']; exact accept_good hI hE.nd x.a (by omega)⟩, (by repeat (first | exact Sub.nil | refine Sub.cons rfl ?_)), _, (by repeat (first | exact TakeL.nil | (apply TakeL.cons; · repeat (first | exact Take1.head | apply Take1.tail))))⟩
                  · refine WC.skip ?_
                    exact ⟨rfl, (es, false), ⟨hE, GoodC.same hI x.a (.inr (.inl (by have := hxo.k; omega)))⟩, (by repeat (first | exact Sub.nil | refine Sub.cons rfl ?_)), _, (by repeat (first | exact TakeL.nil | (apply TakeL.cons; · repeat (first | exact Take1.head | apply Take1.tail))))⟩
        · rintro ⟨es', q⟩ ⟨hE', hG'⟩
          dsimp only at hE' hG' ⊢
          dsimp only [List.cons_append, List.nil_append]
          refine WC.seq ?_
          refine WC.seq ?_
          refine WC.region ?_
          refine WL.y (Yl.move rfl) rfl ?_ -- t95
          refine WL.y (Yl.move rfl) rfl ?_ -- t96
          refine WL.callC (xs := [.tmp 95, .tmp 96]) (cap := []) rfl rfl en20 (by repeat (first | exact TakeL.nil | (apply TakeL.cons; · repeat (first | exact Take1.head | apply Take1.tail)))) (fun w hw => keys_any b x.a w hw.left.here) rfl ?_ -- t97 (*hailer/trust.Book).Keys
          rintro ⟨b2, b3⟩ -
          dsimp only [List.cons_append, List.nil_append]
          refine WL.nil ?_
          refine WC.block ?_
          have hle2 := kysAt_le hE' x.a
          have hkd2 := kysAt_devs (pj es') x.a
          obtain ⟨K2, hK2⟩ : ∃ K, kysAt (pj es') x.a = K := ⟨_, rfl⟩
          rw [hK2] at hle2 hkd2
          refine WC.view (fun w h => h.addNil 30 32) ?_
          refine WC.rangeW (α := Option Addr × Nat) (A := keyL b b2 b3 ao cp mb 0 own es' x.a) (E := keyL b b2 b3 ao cp mb 0 own es' x.a) (Ex := fun _ => keyL b b2 b3 ao cp mb 0 own es' x.a) (lb := [.pointer (some ⟨b2, 0, none⟩), .pointer (some ⟨b3, 0, none⟩)]) (xs := ysK x.a (devsAt (pj es') x.a)) (fun i s => [blkR b10 22 [.slice s.1 (K2.take i).length s.2], rwK (.slice s.1 (K2.take i).length s.2) (K2.take i).length (K2.take i)]) (fun _ _ => True) (none, 0) rfl en37 (ysK_size x.a _) rfl (by repeat (first | exact TakeL.nil | (apply TakeL.cons; · repeat (first | exact Take1.head | apply Take1.tail)))) (keys_iterW b b2 b3 ao cp mb 0 own es' hE' x.a hxo.a) rfl (fun _ => rfl) trivial (by repeat (first | exact TakeL.nil | (apply TakeL.cons; · repeat (first | exact Take1.head | apply Take1.tail)))) ?_ ?_
          · rintro l2 n y ⟨a9, c9⟩ hy _ W
            obtain ⟨p, hp, rfl⟩ := ysK_at hy
            have hk : K2[n]? = some p.2 := by rw [← hkd2, List.getElem?_map, hp]; rfl
            have hnx := take_snocK hk
            have hnl := (List.getElem?_eq_some_iff.1 hk).1
            have hl1 : (K2.take n).length = n := by rw [List.length_take]; omega
            have hl2 : (K2.take (n + 1)).length = n + 1 := by rw [List.length_take]; omega
            show WC _ _ _ ((99, kyV p.2) :: (98, .agg #[.int .u8 x.a, .int .u8 (p.1 : Int)]) :: _) _ _
            refine WC.region ?_
            refine WL.to (To.alloc (cs := ints .u8 (List.replicate 32 0)) zr30 rfl) rfl ?_ -- t17
            intro b17
            refine WL.sto (Sto.agg sz30 rfl rfl (by repeat (first | exact Take1.head | apply Take1.tail)) p.2.ones p.2.clen (by rfl) (putAll rfl)) (fun _ h => nomatch h) ?_ -- st 4
            refine WL.nil ?_
            repeat (first | (with_reducible refine peelT ?_) | (with_reducible refine peelB ?_) | (with_reducible refine peelTX ?_) | (with_reducible refine peelBX ?_) | (with_reducible refine peelBN ?_) | (with_reducible refine peelBO rfl ?_))
            refine fun W2 => ?_
            refine WC.block ?_
            refine WC.region ?_
            refine WL.y (Yl.load on22 rfl (by repeat (first | exact Take1.head | apply Take1.tail)) (by rfl)) rfl ?_ -- t100
            refine WL.y (Yl.loadN (T := 30) (cs := p.2.cells) (cs' := p.2.cells) ag30 rfl (by repeat (first | exact Take1.head | apply Take1.tail)) (Nat.ble_eq_true_of_le (by rw [p.2.clen]; omega)) (by rw [List.drop_zero, List.take_of_length_le (by rw [p.2.clen]; omega)])) rfl ?_
            refine WL.to (To.buildSlice (vs := [kyV p.2]) un22 zs30 rfl rfl (fun v hv => by rw [List.mem_singleton] at hv; subst hv; unfold kyV; simp [Value.cells, Ky.clen]) (by decide) (by decide)) rfl ?_ -- t102
            intro b102
            refine WL.to (To.append sl22 rfl rfl (by repeat (first | exact Take1.head | apply Take1.tail)) (Reads.of (RdOf.blk (size := 32) (n := 1) (cs := flat [kyV p.2]) (cs' := vcs kyV [p.2]) (Nat.le_refl _) (by unfold maxLen; omega) (by simp [flat, kyV, Value.cells, Ky.clen]) (by rw [List.drop_zero, List.take_of_length_le (by simp [flat, kyV, Value.cells, Ky.clen])]; rfl)) (by repeat (first | exact Take1.head | apply Take1.tail))) (vtK.ones _) (show (K2.take n).length + 1 = (K2.take (n + 1)).length by omega) (show vcs kyV (K2.take n) ++ vcs kyV [p.2] = vcs kyV (K2.take (n + 1)) by rw [hnx, vcs_app]) (by unfold maxLen; omega) (by omega)) rfl ?_ -- t103
            rintro ⟨⟨ao103, c103⟩, hc103⟩
            dsimp only at hc103 ⊢
            refine WL.sto (Sto.one sz22 rfl rfl (by repeat (first | exact Take1.head | apply Take1.tail)) rfl (by rfl) (by rfl)) (fun _ h => nomatch h) ?_ -- st 5
            refine WL.nil ?_
            repeat (first | (with_reducible refine peelT ?_) | (with_reducible refine peelB ?_) | (with_reducible refine peelTX ?_) | (with_reducible refine peelBX ?_) | (with_reducible refine peelBN ?_) | (with_reducible refine peelBO rfl ?_))
            exact ⟨[blkR b10 22 [.slice ao103 (K2.take (n + 1)).length c103], rwK (.slice ao103 (K2.take (n + 1)).length c103) (K2.take (n + 1)).length (K2.take (n + 1))], _, (by repeat (first | exact TakeL.nil | (apply TakeL.cons; · repeat (first | exact Take1.head | apply Take1.tail)))), (ao103, c103), trivial, rfl⟩
          · rintro ⟨a10, c10⟩ D2 -
            rw [ysK_len, show (devsAt (pj es') x.a).length = K2.length by rw [← hkd2, List.length_map], List.take_length]
            dsimp only [keyL, List.cons_append, List.nil_append]
            refine WC.view (fun w h => h.markAdd (D := D2) (Dl := Dm) (by repeat (first | exact Take1.head | apply Take1.tail)) (by repeat (first | exact Take1.head | apply Take1.tail))) ?_
            obtain ⟨Dn, hDn⟩ : ∃ Dn, D2 :: Dm = Dn := ⟨_, rfl⟩
            rw [show (dM D2 :: Dm.map dM) = Dn.map dM by rw [← hDn]; rfl, hDn]
            refine WC.seq ?_
            refine WC.region ?_
            refine WL.y (Yl.load on22 rfl (by repeat (first | exact Take1.head | apply Take1.tail)) (by rfl)) rfl ?_ -- t104
            refine WL.y (Yl.len un22 rfl) rfl ?_ -- t105
            refine WL.y (Yl.load on22 rfl (by repeat (first | exact Take1.head | apply Take1.tail)) (by rfl)) rfl ?_ -- t106
            refine WL.y (Yl.len un22 rfl) rfl ?_ -- t107
            refine WL.y (Yl.eql rfl rfl) rfl ?_ -- t108
            refine WL.y (Yl.assign rfl) rfl ?_ -- t18
            refine WL.nil ?_
            refine WC.midX (α := Bool) (fun s => [(0, .slice al l.length cl), (3, .pointer (some ⟨b, 0, none⟩)), (34, .slice al l.length cl), (35, .int .i64 (l.length : Int)), (6, .pointer (some ⟨b6, 0, none⟩)), (7, .int .u8 x.a), (8, .int .u8 (stOf (pj es) x.a)), (9, .pointer (some ⟨b9, 0, none⟩)), (10, .pointer (some ⟨b10, 0, none⟩)), (36, .int .i64 (i : Int)), (13, .bool q), (18, .bool s)]) (fun _ => markR Dn :: (bkL b ao cp mb 0 own es' ++ [blkR b6 50 x.cells, blkR b9 22 [.slice a9 K.length c9], rwK (.slice a9 K.length c9) K.length K, blkR b10 22 [.slice a10 K2.length c10], rwK (.slice a10 K2.length c10) K2.length K2, rdR (.slice al l.length cl) 36 l.length (vcs duV l), rdR mxV 1 1 [.int .i64 m]])) (fun s => s = true ↔ K = K2) ?_ ?_
            · refine WC.seq ?_
              refine WC.region ?_
              refine WL.y (Yl.assign rfl) rfl ?_ -- t19
              refine WL.nil ?_
              refine WC.block ?_
              refine WC.loop (α := Nat × Bool) (fun p => [(0, .slice al l.length cl), (3, .pointer (some ⟨b, 0, none⟩)), (34, .slice al l.length cl), (35, .int .i64 (l.length : Int)), (6, .pointer (some ⟨b6, 0, none⟩)), (7, .int .u8 x.a), (8, .int .u8 (stOf (pj es) x.a)), (9, .pointer (some ⟨b9, 0, none⟩)), (10, .pointer (some ⟨b10, 0, none⟩)), (36, .int .i64 (i : Int)), (13, .bool q), (18, .bool p.2), (19, .int .i64 (p.1 : Int))]) (fun p => markR Dn :: (bkL b ao cp mb 0 own es' ++ [blkR b6 50 x.cells, blkR b9 22 [.slice a9 K.length c9], rwK (.slice a9 K.length c9) K.length K, blkR b10 22 [.slice a10 K2.length c10], rwK (.slice a10 K2.length c10) K2.length K2, rdR (.slice al l.length cl) 36 l.length (vcs duV l), rdR mxV 1 1 [.int .i64 m]])) (fun p => p.1 ≤ K2.length ∧ SameI K K2 p.1 p.2) (fun p => K2.length - p.1) (0, decide ((K.length : Int) = (K2.length : Int))) ⟨Nat.zero_le _, same_zero K K2⟩ ⟨(by repeat (first | exact Sub.nil | refine Sub.cons rfl ?_)), _, (by repeat (first | exact TakeL.nil | (apply TakeL.cons; · repeat (first | exact Take1.head | apply Take1.tail))))⟩ ?_
              rintro ⟨n, s⟩ ⟨hn, hs⟩
              dsimp only at hn hs ⊢
              dsimp only [List.cons_append, List.nil_append]
              refine WC.seq ?_
              refine WC.seq ?_
              refine WC.region ?_
              refine WL.y (Yl.move rfl) rfl ?_ -- t109
              refine WL.y (Yl.load on22 rfl (by repeat (first | exact Take1.head | apply Take1.tail)) (by rfl)) rfl ?_ -- t110
              refine WL.y (Yl.len un22 rfl) rfl ?_ -- t111
              refine WL.y (Yl.lss rfl rfl) rfl ?_ -- t112
              refine WL.y (Yl.move rfl) rfl ?_ -- t113
              refine WL.both (t := 113) rfl (fun g113 => ?_) (fun g113 => ?_)
              · refine WL.on rfl rfl ?_
                refine WL.y (Yl.move rfl) rfl ?_ -- t114
                refine WL.y (Yl.pickT rfl rfl) rfl ?_ -- t115
                refine WL.nil ?_
                refine WC.cond rfl (fun g115 => ?_) (fun g115 => ?_)
                · refine WC.skip ?_
                  refine WC.seq ?_
                  refine WC.block ?_
                  refine WC.drawRead mixed (by kernel_rfl) ?_
                  have hs1 : s = true := g115
                  subst hs1
                  have hnl : n < K2.length := by have := of_decide_eq_true g113; omega
                  have hkl := (hs.1 rfl).1
                  obtain ⟨k1, hk1⟩ : ∃ k, K[n]? = some k := ⟨_, List.getElem?_eq_getElem (by omega)⟩
                  obtain ⟨k2, hk2⟩ : ∃ k, K2[n]? = some k := ⟨_, List.getElem?_eq_getElem (by omega)⟩
                  refine WH.y (Yl.load on22 rfl (by repeat (first | exact Take1.head | apply Take1.tail)) (by rfl)) rfl ?_ -- t118
                  refine WH.y (Yl.move rfl) rfl ?_ -- t119
                  refine WH.y (Yl.index un22 sz30 rfl rfl (Reads.of (r := rwK (.slice a9 K.length c9) K.length K) RdOf.own (by repeat (first | exact Take1.head | apply Take1.tail))) rfl (by omega)) rfl ?_ -- t120
                  refine WH.y (Yl.loadV (j := n) (u := k1) vtK (fun _ _ => trivial) rfl (Reads.of (r := rwK (.slice a9 K.length c9) K.length K) RdOf.own (by repeat (first | exact Take1.head | apply Take1.tail))) rfl hk1) rfl ?_
                  refine WH.y (Yl.load on22 rfl (by repeat (first | exact Take1.head | apply Take1.tail)) (by rfl)) rfl ?_ -- t122
                  refine WH.y (Yl.move rfl) rfl ?_ -- t123
                  refine WH.y (Yl.index un22 sz30 rfl rfl (Reads.of (r := rwK (.slice a10 K2.length c10) K2.length K2) RdOf.own (by repeat (first | exact Take1.head | apply Take1.tail))) rfl (by omega)) rfl ?_ -- t124
                  refine WH.y (Yl.loadV (j := n) (u := k2) vtK (fun _ _ => trivial) rfl (Reads.of (r := rwK (.slice a10 K2.length c10) K2.length K2) RdOf.own (by repeat (first | exact Take1.head | apply Take1.tail))) rfl hk2) rfl ?_
                  refine WH.y (Yl.eqK (p := k1) (q := k2) rfl rfl rfl) rfl ?_
                  refine WH.y (Yl.assign rfl) rfl ?_ -- t18
                  refine WH.nil ?_
                  refine WC.region ?_
                  refine WL.y (Yl.move rfl) rfl ?_ -- t116
                  refine WL.y (Yl.add rfl rfl (IntWalk.i64_in _ (by omega))) rfl ?_ -- t117
                  refine WL.y (Yl.assign rfl) rfl ?_ -- t19
                  refine WL.nil ?_
                  exact ⟨rfl, (n + 1, decide (k1 = k2)), ⟨by dsimp only; omega, same_next hs hk1 hk2⟩, by dsimp only; omega, (by repeat (first | exact Sub.nil | refine Sub.cons rfl ?_)), _, (by repeat (first | exact TakeL.nil | (apply TakeL.cons; · repeat (first | exact Take1.head | apply Take1.tail))))⟩
                · refine WC.exit ?_
                  exact ⟨rfl, s, same_end hs (fun h => by rw [g115] at h; cases h), (by repeat (first | exact Sub.nil | refine Sub.cons rfl ?_)), _, (by repeat (first | exact TakeL.nil | (apply TakeL.cons; · repeat (first | exact Take1.head | apply Take1.tail))))⟩
              · refine WL.off rfl rfl rfl rfl ?_ -- t114
                refine WL.y (Yl.pickF rfl rfl) rfl ?_ -- t115
                refine WL.nil ?_
                refine WC.condF rfl (by first | rfl | (simp; done) | (simp; omega)) ?_
                refine WC.exit ?_
                exact ⟨rfl, s, same_end hs (fun _ => by have := of_decide_eq_false g113; omega), (by repeat (first | exact Sub.nil | refine Sub.cons rfl ?_)), _, (by repeat (first | exact TakeL.nil | (apply TakeL.cons; · repeat (first | exact Take1.head | apply Take1.tail))))⟩
            · rintro s hs
              dsimp only [List.cons_append, List.nil_append]
              refine WC.seq ?_
              refine WC.region ?_
              refine WL.y (Yl.move rfl) rfl ?_ -- t127
              refine WL.y (Yl.move rfl) rfl ?_ -- t128
              refine WL.callC (xs := [.tmp 127, .tmp 128]) (cap := []) rfl rfl en18 (by repeat (first | exact TakeL.nil | (apply TakeL.cons; · repeat (first | exact Take1.head | apply Take1.tail)))) (fun w hw => state_any b ao cp mb 0 own es' hE' x.a hxo.a w hw.left.here) rfl ?_ -- t129 (*hailer/trust.Book).State
              rintro ⟨⟩ -
              dsimp only [List.cons_append, List.nil_append]
              refine WL.y (Yl.assign rfl) rfl ?_ -- t20
              refine WL.nil ?_
              refine WC.seq ?_
              have hU := test1 hG'
              have hV := hG'.vr
              have hS := hG'.stay
              have hGo := hG'.go
              have hN := hG'.new
              rw [hK, hK2] at hS hGo
              rw [hK2] at hU
              obtain ⟨now, hnow⟩ : ∃ now, stOf (pj es') x.a = now := ⟨_, rfl⟩
              obtain ⟨was, hwas⟩ : ∃ was, stOf (pj es) x.a = was := ⟨_, rfl⟩
              rw [hnow] at hU hV hS hGo hN ⊢
              rw [hwas] at hS hGo hN ⊢
              refine WC.midX (α := Unit) (fun _ => [(0, .slice al l.length cl), (3, .pointer (some ⟨b, 0, none⟩)), (34, .slice al l.length cl), (35, .int .i64 (l.length : Int)), (6, .pointer (some ⟨b6, 0, none⟩)), (8, .int .u8 was), (13, .bool q), (18, .bool s), (20, .int .u8 now), (36, .int .i64 (i : Int)), (161, .bool false)]) (fun _ => markR Dn :: (bkL b ao cp mb 0 own es' ++ [blkR b6 50 x.cells, blkR b9 22 [.slice a9 K.length c9], rwK (.slice a9 K.length c9) K.length K, blkR b10 22 [.slice a10 K2.length c10], rwK (.slice a10 K2.length c10) K2.length K2, rdR (.slice al l.length cl) 36 l.length (vcs duV l), rdR mxV 1 1 [.int .i64 m]])) (fun _ => True) ?_ ?_
              · refine WC.region ?_
                refine WL.y (Yl.move rfl) rfl ?_ -- t130
                refine WL.y (Yl.eql rfl rfl) rfl ?_ -- t131
                refine WL.y (Yl.load on22 rfl (by repeat (first | exact Take1.head | apply Take1.tail)) (by rfl)) rfl ?_ -- t132
                refine WL.y (Yl.len un22 rfl) rfl ?_ -- t133
                refine WL.y (Yl.eql rfl rfl) rfl ?_ -- t134
                refine WL.y (Yl.bNe un4 rfl rfl) rfl ?_ -- t135
                refine WL.know (t := 135) (b' := false) rfl (by rw [hU]; simp) ?_
                refine WL.y (Yl.move rfl) rfl ?_ -- t136
                refine WL.on rfl rfl ?_
                refine WL.y (Yl.move rfl) rfl ?_ -- t137
                refine WL.on rfl rfl ?_
                refine WL.y (Yl.move rfl) rfl ?_ -- t138
                refine WL.on rfl rfl ?_
                refine WL.y (Yl.eql rfl rfl) rfl ?_ -- t139
                refine WL.on rfl rfl ?_
                refine WL.y (Yl.move rfl) rfl ?_ -- t140
                refine WL.both (t := 140) rfl (fun g140 => ?_) (fun g140 => ?_)
                · refine WL.on rfl rfl ?_
                  refine WL.y (Yl.field fo50_0 rfl) rfl ?_ -- t141
                  refine WL.on rfl rfl ?_
                  refine WL.y (Yl.load on5 rfl (by repeat (first | exact Take1.head | apply Take1.tail)) (by rfl)) rfl ?_ -- t142
                  refine WL.on rfl rfl ?_
                  refine WL.y (Yl.geq rfl rfl) rfl ?_ -- t143
                  refine WL.on rfl rfl ?_
                  refine WL.y (Yl.pickT rfl rfl) rfl ?_ -- t144
                  refine WL.on rfl rfl ?_
                  refine WL.y (Yl.move rfl) rfl ?_ -- t145
                  refine WL.both (t := 145) rfl (fun g145 => ?_) (fun g145 => ?_)
                  · refine WL.on rfl rfl ?_
                    refine WL.y (Yl.field fo50_0 rfl) rfl ?_ -- t146
                    refine WL.on rfl rfl ?_
                    refine WL.y (Yl.load on5 rfl (by repeat (first | exact Take1.head | apply Take1.tail)) (by rfl)) rfl ?_ -- t147
                    refine WL.on rfl rfl ?_
                    refine WL.y (Yl.leq rfl rfl) rfl ?_ -- t148
                    refine WL.on rfl rfl ?_
                    refine WL.y (Yl.pickT rfl rfl) rfl ?_ -- t149
                    refine WL.on rfl rfl ?_
                    refine WL.y (Yl.bNe un4 rfl rfl) rfl ?_ -- t150
                    refine WL.on rfl rfl ?_
                    refine WL.y (Yl.move rfl) rfl ?_ -- t151
                    refine WL.both (t := 151) rfl (fun g151 => ?_) (fun g151 => ?_)
                    · refine WL.on rfl rfl ?_
                      refine WL.y (Yl.field fo50_0 rfl) rfl ?_ -- t152
                      refine WL.on rfl rfl ?_
                      refine WL.y (Yl.load on5 rfl (by repeat (first | exact Take1.head | apply Take1.tail)) (by rfl)) rfl ?_ -- t153
                      refine WL.on rfl rfl ?_
                      refine WL.y (Yl.geq rfl rfl) rfl ?_ -- t154
                      refine WL.on rfl rfl ?_
                      refine WL.y (Yl.pickT rfl rfl) rfl ?_ -- t155
                      refine WL.on rfl rfl ?_
                      refine WL.y (Yl.move rfl) rfl ?_ -- t156
                      refine WL.both (t := 156) rfl (fun g156 => ?_) (fun g156 => ?_)
                      · refine WL.on rfl rfl ?_
                        refine WL.y (Yl.field fo50_0 rfl) rfl ?_ -- t157
                        refine WL.on rfl rfl ?_
                        refine WL.y (Yl.load on5 rfl (by repeat (first | exact Take1.head | apply Take1.tail)) (by rfl)) rfl ?_ -- t158
                        refine WL.on rfl rfl ?_
                        refine WL.y (Yl.leq rfl rfl) rfl ?_ -- t159
                        refine WL.on rfl rfl ?_
                        refine WL.y (Yl.pickT rfl rfl) rfl ?_ -- t160
                        refine WL.y (Yl.pickF rfl rfl) rfl ?_ -- t161
                        refine WL.say (t := 161) (v' := .bool false) rfl (by exact congrArg Value.bool (decide_eq_false fun h3 => by have h2 := of_decide_eq_true g145; have hq := (hV h2 h3).2 (of_decide_eq_true g140); rw [hq, decide_eq_true h3] at g151; cases g151)) ?_
                        refine WL.nil ?_
                        exact ⟨rfl, (), trivial, (by repeat (first | exact Sub.nil | refine Sub.cons rfl ?_)), _, (by repeat (first | exact TakeL.nil | (apply TakeL.cons; · repeat (first | exact Take1.head | apply Take1.tail))))⟩
                      · refine WL.off rfl rfl rfl rfl ?_ -- t157
                        refine WL.off rfl rfl rfl rfl ?_ -- t158
                        refine WL.off rfl rfl rfl rfl ?_ -- t159
                        refine WL.on rfl rfl ?_
                        refine WL.y (Yl.pickF rfl rfl) rfl ?_ -- t160
                        refine WL.y (Yl.pickF rfl rfl) rfl ?_ -- t161
                        refine WL.say (t := 161) (v' := .bool false) rfl (by first | rfl | (clear hS hGo hN; simp_all; done) | (clear hS hGo hN; simp_all; omega)) ?_
                        refine WL.nil ?_
                        exact ⟨rfl, (), trivial, (by repeat (first | exact Sub.nil | refine Sub.cons rfl ?_)), _, (by repeat (first | exact TakeL.nil | (apply TakeL.cons; · repeat (first | exact Take1.head | apply Take1.tail))))⟩
                    · refine WL.off rfl rfl rfl rfl ?_ -- t152
                      refine WL.off rfl rfl rfl rfl ?_ -- t153
                      refine WL.off rfl rfl rfl rfl ?_ -- t154
                      refine WL.on rfl rfl ?_
                      refine WL.y (Yl.pickF rfl rfl) rfl ?_ -- t155
                      refine WL.on rfl rfl ?_
                      refine WL.y (Yl.move rfl) rfl ?_ -- t156
                      refine WL.off rfl rfl rfl rfl ?_ -- t157
                      refine WL.off rfl rfl rfl rfl ?_ -- t158
                      refine WL.off rfl rfl rfl rfl ?_ -- t159
                      refine WL.on rfl rfl ?_
                      refine WL.y (Yl.pickF rfl rfl) rfl ?_ -- t160
                      refine WL.y (Yl.pickF rfl rfl) rfl ?_ -- t161
                      refine WL.say (t := 161) (v' := .bool false) rfl (by first | rfl | (clear hS hGo hN; simp_all; done) | (clear hS hGo hN; simp_all; omega)) ?_
                      refine WL.nil ?_
                      exact ⟨rfl, (), trivial, (by repeat (first | exact Sub.nil | refine Sub.cons rfl ?_)), _, (by repeat (first | exact TakeL.nil | (apply TakeL.cons; · repeat (first | exact Take1.head | apply Take1.tail))))⟩
                  · refine WL.off rfl rfl rfl rfl ?_ -- t146
                    refine WL.off rfl rfl rfl rfl ?_ -- t147
                    refine WL.off rfl rfl rfl rfl ?_ -- t148
                    refine WL.on rfl rfl ?_
                    refine WL.y (Yl.pickF rfl rfl) rfl ?_ -- t149
                    refine WL.on rfl rfl ?_
                    refine WL.y (Yl.bNe un4 rfl rfl) rfl ?_ -- t150
                    refine WL.on rfl rfl ?_
                    refine WL.y (Yl.move rfl) rfl ?_ -- t151
                    refine WL.both (t := 151) rfl (fun g151 => ?_) (fun g151 => ?_)
                    · refine WL.on rfl rfl ?_
                      refine WL.y (Yl.field fo50_0 rfl) rfl ?_ -- t152
                      refine WL.on rfl rfl ?_
                      refine WL.y (Yl.load on5 rfl (by repeat (first | exact Take1.head | apply Take1.tail)) (by rfl)) rfl ?_ -- t153
                      refine WL.on rfl rfl ?_
                      refine WL.y (Yl.geq rfl rfl) rfl ?_ -- t154
                      refine WL.on rfl rfl ?_
                      refine WL.y (Yl.pickT rfl rfl) rfl ?_ -- t155
                      refine WL.on rfl rfl ?_
                      refine WL.y (Yl.move rfl) rfl ?_ -- t156
                      refine WL.both (t := 156) rfl (fun g156 => ?_) (fun g156 => ?_)
                      · refine WL.on rfl rfl ?_
                        refine WL.y (Yl.field fo50_0 rfl) rfl ?_ -- t157
                        refine WL.on rfl rfl ?_
                        refine WL.y (Yl.load on5 rfl (by repeat (first | exact Take1.head | apply Take1.tail)) (by rfl)) rfl ?_ -- t158
                        refine WL.on rfl rfl ?_
                        refine WL.y (Yl.leq rfl rfl) rfl ?_ -- t159
                        refine WL.on rfl rfl ?_
                        refine WL.y (Yl.pickT rfl rfl) rfl ?_ -- t160
                        refine WL.y (Yl.pickF rfl rfl) rfl ?_ -- t161
                        refine WL.say (t := 161) (v' := .bool false) rfl (by first | rfl | (clear hS hGo hN; simp_all; done) | (clear hS hGo hN; simp_all; omega)) ?_
                        refine WL.nil ?_
                        exact ⟨rfl, (), trivial, (by repeat (first | exact Sub.nil | refine Sub.cons rfl ?_)), _, (by repeat (first | exact TakeL.nil | (apply TakeL.cons; · repeat (first | exact Take1.head | apply Take1.tail))))⟩
                      · refine WL.off rfl rfl rfl rfl ?_ -- t157
                        refine WL.off rfl rfl rfl rfl ?_ -- t158
                        refine WL.off rfl rfl rfl rfl ?_ -- t159
                        refine WL.on rfl rfl ?_
                        refine WL.y (Yl.pickF rfl rfl) rfl ?_ -- t160
                        refine WL.y (Yl.pickF rfl rfl) rfl ?_ -- t161
                        refine WL.say (t := 161) (v' := .bool false) rfl (by first | rfl | (clear hS hGo hN; simp_all; done) | (clear hS hGo hN; simp_all; omega)) ?_
                        refine WL.nil ?_
                        exact ⟨rfl, (), trivial, (by repeat (first | exact Sub.nil | refine Sub.cons rfl ?_)), _, (by repeat (first | exact TakeL.nil | (apply TakeL.cons; · repeat (first | exact Take1.head | apply Take1.tail))))⟩
                    · refine WL.off rfl rfl rfl rfl ?_ -- t152
                      refine WL.off rfl rfl rfl rfl ?_ -- t153
                      refine WL.off rfl rfl rfl rfl ?_ -- t154
                      refine WL.on rfl rfl ?_
                      refine WL.y (Yl.pickF rfl rfl) rfl ?_ -- t155
                      refine WL.on rfl rfl ?_
                      refine WL.y (Yl.move rfl) rfl ?_ -- t156
                      refine WL.off rfl rfl rfl rfl ?_ -- t157
                      refine WL.off rfl rfl rfl rfl ?_ -- t158
                      refine WL.off rfl rfl rfl rfl ?_ -- t159
                      refine WL.on rfl rfl ?_
                      refine WL.y (Yl.pickF rfl rfl) rfl ?_ -- t160
                      refine WL.y (Yl.pickF rfl rfl) rfl ?_ -- t161
                      refine WL.say (t := 161) (v' := .bool false) rfl (by first | rfl | (clear hS hGo hN; simp_all; done) | (clear hS hGo hN; simp_all; omega)) ?_
                      refine WL.nil ?_
                      exact ⟨rfl, (), trivial, (by repeat (first | exact Sub.nil | refine Sub.cons rfl ?_)), _, (by repeat (first | exact TakeL.nil | (apply TakeL.cons; · repeat (first | exact Take1.head | apply Take1.tail))))⟩
                · refine WL.off rfl rfl rfl rfl ?_ -- t141
                  refine WL.off rfl rfl rfl rfl ?_ -- t142
                  refine WL.off rfl rfl rfl rfl ?_ -- t143
                  refine WL.on rfl rfl ?_
                  refine WL.y (Yl.pickF rfl rfl) rfl ?_ -- t144
                  refine WL.on rfl rfl ?_
                  refine WL.y (Yl.move rfl) rfl ?_ -- t145
                  refine WL.off rfl rfl rfl rfl ?_ -- t146
                  refine WL.off rfl rfl rfl rfl ?_ -- t147
                  refine WL.off rfl rfl rfl rfl ?_ -- t148
                  refine WL.on rfl rfl ?_
                  refine WL.y (Yl.pickF rfl rfl) rfl ?_ -- t149
                  refine WL.on rfl rfl ?_
                  refine WL.y (Yl.bNe un4 rfl rfl) rfl ?_ -- t150
                  refine WL.on rfl rfl ?_
                  refine WL.y (Yl.move rfl) rfl ?_ -- t151
                  refine WL.both (t := 151) rfl (fun g151 => ?_) (fun g151 => ?_)
                  · refine WL.on rfl rfl ?_
                    refine WL.y (Yl.field fo50_0 rfl) rfl ?_ -- t152
                    refine WL.on rfl rfl ?_
                    refine WL.y (Yl.load on5 rfl (by repeat (first | exact Take1.head | apply Take1.tail)) (by rfl)) rfl ?_ -- t153
                    refine WL.on rfl rfl ?_
                    refine WL.y (Yl.geq rfl rfl) rfl ?_ -- t154
                    refine WL.on rfl rfl ?_
                    refine WL.y (Yl.pickT rfl rfl) rfl ?_ -- t155
                    refine WL.on rfl rfl ?_
                    refine WL.y (Yl.move rfl) rfl ?_ -- t156
                    refine WL.both (t := 156) rfl (fun g156 => ?_) (fun g156 => ?_)
                    · refine WL.on rfl rfl ?_
                      refine WL.y (Yl.field fo50_0 rfl) rfl ?_ -- t157
                      refine WL.on rfl rfl ?_
                      refine WL.y (Yl.load on5 rfl (by repeat (first | exact Take1.head | apply Take1.tail)) (by rfl)) rfl ?_ -- t158
                      refine WL.on rfl rfl ?_
                      refine WL.y (Yl.leq rfl rfl) rfl ?_ -- t159
                      refine WL.on rfl rfl ?_
                      refine WL.y (Yl.pickT rfl rfl) rfl ?_ -- t160
                      refine WL.y (Yl.pickF rfl rfl) rfl ?_ -- t161
                      refine WL.say (t := 161) (v' := .bool false) rfl (by first | rfl | (clear hS hGo hN; simp_all; done) | (clear hS hGo hN; simp_all; omega)) ?_
                      refine WL.nil ?_
                      exact ⟨rfl, (), trivial, (by repeat (first | exact Sub.nil | refine Sub.cons rfl ?_)), _, (by repeat (first | exact TakeL.nil | (apply TakeL.cons; · repeat (first | exact Take1.head | apply Take1.tail))))⟩
                    · refine WL.off rfl rfl rfl rfl ?_ -- t157
                      refine WL.off rfl rfl rfl rfl ?_ -- t158
                      refine WL.off rfl rfl rfl rfl ?_ -- t159
                      refine WL.on rfl rfl ?_
                      refine WL.y (Yl.pickF rfl rfl) rfl ?_ -- t160
                      refine WL.y (Yl.pickF rfl rfl) rfl ?_ -- t161
                      refine WL.say (t := 161) (v' := .bool false) rfl (by first | rfl | (clear hS hGo hN; simp_all; done) | (clear hS hGo hN; simp_all; omega)) ?_
                      refine WL.nil ?_
                      exact ⟨rfl, (), trivial, (by repeat (first | exact Sub.nil | refine Sub.cons rfl ?_)), _, (by repeat (first | exact TakeL.nil | (apply TakeL.cons; · repeat (first | exact Take1.head | apply Take1.tail))))⟩
                  · refine WL.off rfl rfl rfl rfl ?_ -- t152
                    refine WL.off rfl rfl rfl rfl ?_ -- t153
                    refine WL.off rfl rfl rfl rfl ?_ -- t154
                    refine WL.on rfl rfl ?_
                    refine WL.y (Yl.pickF rfl rfl) rfl ?_ -- t155
                    refine WL.on rfl rfl ?_
                    refine WL.y (Yl.move rfl) rfl ?_ -- t156
                    refine WL.off rfl rfl rfl rfl ?_ -- t157
                    refine WL.off rfl rfl rfl rfl ?_ -- t158
                    refine WL.off rfl rfl rfl rfl ?_ -- t159
                    refine WL.on rfl rfl ?_
                    refine WL.y (Yl.pickF rfl rfl) rfl ?_ -- t160
                    refine WL.y (Yl.pickF rfl rfl) rfl ?_ -- t161
                    refine WL.say (t := 161) (v' := .bool false) rfl (by first | rfl | (clear hS hGo hN; simp_all; done) | (clear hS hGo hN; simp_all; omega)) ?_
                    refine WL.nil ?_
                    exact ⟨rfl, (), trivial, (by repeat (first | exact Sub.nil | refine Sub.cons rfl ?_)), _, (by repeat (first | exact TakeL.nil | (apply TakeL.cons; · repeat (first | exact Take1.head | apply Take1.tail))))⟩
              · rintro ⟨⟩ -
                dsimp only [List.cons_append, List.nil_append]
                refine WC.condF rfl (by first | rfl | (simp; done) | (simp; omega)) ?_
                refine WC.skip ?_
                refine WC.midX (α := Unit) (fun _ => [(0, .slice al l.length cl), (3, .pointer (some ⟨b, 0, none⟩)), (34, .slice al l.length cl), (35, .int .i64 (l.length : Int)), (36, .int .i64 (i : Int)), (198, .bool false)]) (fun _ => markR Dn :: (bkL b ao cp mb 0 own es' ++ [rdR (.slice al l.length cl) 36 l.length (vcs duV l), rdR mxV 1 1 [.int .i64 m]])) (fun _ => True) ?_ ?_
                · refine WC.region ?_
                  refine WL.y (Yl.move rfl) rfl ?_ -- t162
                  refine WL.y (Yl.eql rfl rfl) rfl ?_ -- t163
                  refine WL.y (Yl.move rfl) rfl ?_ -- t164
                  refine WL.both (t := 164) rfl (fun g164 => ?_) (fun g164 => ?_)
                  · refine WL.on rfl rfl ?_
                    refine WL.y (Yl.move rfl) rfl ?_ -- t165
                    refine WL.on rfl rfl ?_
                    refine WL.y (Yl.move rfl) rfl ?_ -- t166
                    refine WL.both (t := 166) rfl (fun g166 => ?_) (fun g166 => ?_)
                    · refine WL.on rfl rfl ?_
                      refine WL.y (Yl.move rfl) rfl ?_ -- t167
                      refine WL.on rfl rfl ?_
                      refine WL.y (Yl.move rfl) rfl ?_ -- t168
                      refine WL.on rfl rfl ?_
                      refine WL.y (Yl.neq rfl rfl) rfl ?_ -- t169
                      refine WL.on rfl rfl ?_
                      refine WL.y (Yl.pickT rfl rfl) rfl ?_ -- t170
                      refine WL.on rfl rfl ?_
                      refine WL.y (Yl.move rfl) rfl ?_ -- t171
                      refine WL.both (t := 171) rfl (fun g171 => ?_) (fun g171 => ?_)
                      · refine WL.on rfl rfl ?_
                        refine WL.y (Yl.field fo50_0 rfl) rfl ?_ -- t172
                        refine WL.on rfl rfl ?_
                        refine WL.y (Yl.load on5 rfl (by repeat (first | exact Take1.head | apply Take1.tail)) (by rfl)) rfl ?_ -- t173
                        refine WL.on rfl rfl ?_
                        refine WL.y (Yl.neq rfl rfl) rfl ?_ -- t174
                        refine WL.on rfl rfl ?_
                        refine WL.y (Yl.pickT rfl rfl) rfl ?_ -- t175
                        refine WL.on rfl rfl ?_
                        refine WL.y (Yl.move rfl) rfl ?_ -- t176
                        refine WL.both (t := 176) rfl (fun g176 => ?_) (fun g176 => ?_)
                        · refine WL.off rfl rfl rfl rfl ?_ -- t177
                          refine WL.off rfl rfl rfl rfl ?_ -- t178
                          refine WL.off rfl rfl rfl rfl ?_ -- t179
                          refine WL.offU rfl rfl rfl ?_ -- t180
                          refine WL.offU rfl rfl rfl ?_ -- t181
                          refine WL.offU rfl rfl rfl ?_ -- t182
                          refine WL.off rfl rfl rfl rfl ?_ -- t183
                          refine WL.on rfl rfl ?_
                          refine WL.y (Yl.pickT rfl rfl) rfl ?_ -- t184
                          refine WL.y (Yl.pickT rfl rfl) rfl ?_ -- t185
                          refine WL.y (Yl.move rfl) rfl ?_ -- t186
                          refine WL.off rfl rfl rfl rfl ?_ -- t187
                          refine WL.off rfl rfl rfl rfl ?_ -- t188
                          refine WL.off rfl rfl rfl rfl ?_ -- t189
                          refine WL.offU rfl rfl rfl ?_ -- t190
                          refine WL.offU rfl rfl rfl ?_ -- t191
                          refine WL.offU rfl rfl rfl ?_ -- t192
                          refine WL.off rfl rfl rfl rfl ?_ -- t193
                          refine WL.off rfl rfl rfl rfl ?_ -- t194
                          refine WL.offU rfl rfl rfl ?_ -- t195
                          refine WL.offU rfl rfl rfl ?_ -- t196
                          refine WL.off rfl rfl rfl rfl ?_ -- t197
                          refine WL.y (Yl.pickT rfl rfl) rfl ?_ -- t198
                          refine WL.say (t := 198) (v' := .bool false) rfl (by first | rfl | (clear hV; simp_all; done) | (clear hV; simp_all; omega)) ?_
                          refine WL.nil ?_
                          exact ⟨rfl, (), trivial, (by repeat (first | exact Sub.nil | refine Sub.cons rfl ?_)), _, (by repeat (first | exact TakeL.nil | (apply TakeL.cons; · repeat (first | exact Take1.head | apply Take1.tail))))⟩
                        · refine WL.on rfl rfl ?_
                          refine WL.y (Yl.move rfl) rfl ?_ -- t177
                          refine WL.on rfl rfl ?_
                          refine WL.y (Yl.not rfl) rfl ?_ -- t178
                          refine WL.on rfl rfl ?_
                          refine WL.y (Yl.move rfl) rfl ?_ -- t179
                          refine WL.both (t := 179) rfl (fun g179 => ?_) (fun g179 => ?_)
                          · refine WL.on rfl rfl ?_
                            refine WL.y (Yl.move rfl) rfl ?_ -- t180
                            refine WL.on rfl rfl ?_
                            refine WL.y (Yl.move rfl) rfl ?_ -- t181
                            refine WL.on rfl rfl ?_
                            refine WL.y (Yl.eql rfl rfl) rfl ?_ -- t182
                            refine WL.on rfl rfl ?_
                            refine WL.y (Yl.pickT rfl rfl) rfl ?_ -- t183
                            refine WL.on rfl rfl ?_
                            refine WL.y (Yl.pickF rfl rfl) rfl ?_ -- t184
                            refine WL.y (Yl.pickT rfl rfl) rfl ?_ -- t185
                            refine WL.y (Yl.move rfl) rfl ?_ -- t186
                            refine WL.both (t := 186) rfl (fun g186 => ?_) (fun g186 => ?_)
                            · refine WL.off rfl rfl rfl rfl ?_ -- t187
                              refine WL.off rfl rfl rfl rfl ?_ -- t188
                              refine WL.off rfl rfl rfl rfl ?_ -- t189
                              refine WL.offU rfl rfl rfl ?_ -- t190
                              refine WL.offU rfl rfl rfl ?_ -- t191
                              refine WL.offU rfl rfl rfl ?_ -- t192
                              refine WL.off rfl rfl rfl rfl ?_ -- t193
                              refine WL.off rfl rfl rfl rfl ?_ -- t194
                              refine WL.offU rfl rfl rfl ?_ -- t195
                              refine WL.offU rfl rfl rfl ?_ -- t196
                              refine WL.off rfl rfl rfl rfl ?_ -- t197
                              refine WL.y (Yl.pickT rfl rfl) rfl ?_ -- t198
                              refine WL.say (t := 198) (v' := .bool false) rfl (by first | rfl | (clear hV; simp_all; done) | (clear hV; simp_all; omega)) ?_
                              refine WL.nil ?_
                              exact ⟨rfl, (), trivial, (by repeat (first | exact Sub.nil | refine Sub.cons rfl ?_)), _, (by repeat (first | exact TakeL.nil | (apply TakeL.cons; · repeat (first | exact Take1.head | apply Take1.tail))))⟩
                            · refine WL.on rfl rfl ?_
                              refine WL.y (Yl.move rfl) rfl ?_ -- t187
                              refine WL.on rfl rfl ?_
                              refine WL.y (Yl.eql rfl rfl) rfl ?_ -- t188
                              refine WL.on rfl rfl ?_
                              refine WL.y (Yl.move rfl) rfl ?_ -- t189
                              refine WL.both (t := 189) rfl (fun g189 => ?_) (fun g189 => ?_)
                              · refine WL.on rfl rfl ?_
                                refine WL.y (Yl.move rfl) rfl ?_ -- t190
                                refine WL.on rfl rfl ?_
                                refine WL.y (Yl.move rfl) rfl ?_ -- t191
                                refine WL.on rfl rfl ?_
                                refine WL.y (Yl.neq rfl rfl) rfl ?_ -- t192
                                refine WL.on rfl rfl ?_
                                refine WL.y (Yl.pickT rfl rfl) rfl ?_ -- t193
                                refine WL.on rfl rfl ?_
                                refine WL.y (Yl.move rfl) rfl ?_ -- t194
                                refine WL.both (t := 194) rfl (fun g194 => ?_) (fun g194 => ?_)
                                · refine WL.on rfl rfl ?_
                                  refine WL.y (Yl.move rfl) rfl ?_ -- t195
                                  refine WL.on rfl rfl ?_
                                  refine WL.y (Yl.not rfl) rfl ?_ -- t196
                                  refine WL.on rfl rfl ?_
                                  refine WL.y (Yl.pickT rfl rfl) rfl ?_ -- t197
                                  refine WL.y (Yl.pickF rfl rfl) rfl ?_ -- t198
                                  refine WL.say (t := 198) (v' := .bool false) rfl (by first | rfl | (clear hV; simp_all; done) | (clear hV; simp_all; omega)) ?_
                                  refine WL.nil ?_
                                  exact ⟨rfl, (), trivial, (by repeat (first | exact Sub.nil | refine Sub.cons rfl ?_)), _, (by repeat (first | exact TakeL.nil | (apply TakeL.cons; · repeat (first | exact Take1.head | apply Take1.tail))))⟩
                                · refine WL.off rfl rfl rfl rfl ?_ -- t195
                                  refine WL.off rfl rfl rfl rfl ?_ -- t196
                                  refine WL.on rfl rfl ?_
                                  refine WL.y (Yl.pickF rfl rfl) rfl ?_ -- t197
                                  refine WL.y (Yl.pickF rfl rfl) rfl ?_ -- t198
                                  refine WL.say (t := 198) (v' := .bool false) rfl (by first | rfl | (clear hV; simp_all; done) | (clear hV; simp_all; omega)) ?_
                                  refine WL.nil ?_
                                  exact ⟨rfl, (), trivial, (by repeat (first | exact Sub.nil | refine Sub.cons rfl ?_)), _, (by repeat (first | exact TakeL.nil | (apply TakeL.cons; · repeat (first | exact Take1.head | apply Take1.tail))))⟩
                              · refine WL.off rfl rfl rfl rfl ?_ -- t190
                                refine WL.off rfl rfl rfl rfl ?_ -- t191
                                refine WL.off rfl rfl rfl rfl ?_ -- t192
                                refine WL.on rfl rfl ?_
                                refine WL.y (Yl.pickF rfl rfl) rfl ?_ -- t193
                                refine WL.on rfl rfl ?_
                                refine WL.y (Yl.move rfl) rfl ?_ -- t194
                                refine WL.off rfl rfl rfl rfl ?_ -- t195
                                refine WL.off rfl rfl rfl rfl ?_ -- t196
                                refine WL.on rfl rfl ?_
                                refine WL.y (Yl.pickF rfl rfl) rfl ?_ -- t197
                                refine WL.y (Yl.pickF rfl rfl) rfl ?_ -- t198
                                refine WL.say (t := 198) (v' := .bool false) rfl (by first | rfl | (clear hV; simp_all; done) | (clear hV; simp_all; omega)) ?_
                                refine WL.nil ?_
                                exact ⟨rfl, (), trivial, (by repeat (first | exact Sub.nil | refine Sub.cons rfl ?_)), _, (by repeat (first | exact TakeL.nil | (apply TakeL.cons; · repeat (first | exact Take1.head | apply Take1.tail))))⟩
                          · refine WL.off rfl rfl rfl rfl ?_ -- t180
                            refine WL.off rfl rfl rfl rfl ?_ -- t181
                            refine WL.off rfl rfl rfl rfl ?_ -- t182
                            refine WL.on rfl rfl ?_
                            refine WL.y (Yl.pickF rfl rfl) rfl ?_ -- t183
                            refine WL.on rfl rfl ?_
                            refine WL.y (Yl.pickF rfl rfl) rfl ?_ -- t184
                            refine WL.y (Yl.pickT rfl rfl) rfl ?_ -- t185
                            refine WL.y (Yl.move rfl) rfl ?_ -- t186
                            refine WL.on rfl rfl ?_
                            refine WL.y (Yl.move rfl) rfl ?_ -- t187
                            refine WL.on rfl rfl ?_
                            refine WL.y (Yl.eql rfl rfl) rfl ?_ -- t188
                            refine WL.on rfl rfl ?_
                            refine WL.y (Yl.move rfl) rfl ?_ -- t189
                            refine WL.both (t := 189) rfl (fun g189 => ?_) (fun g189 => ?_)
                            · refine WL.on rfl rfl ?_
                              refine WL.y (Yl.move rfl) rfl ?_ -- t190
                              refine WL.on rfl rfl ?_
                              refine WL.y (Yl.move rfl) rfl ?_ -- t191
                              refine WL.on rfl rfl ?_
                              refine WL.y (Yl.neq rfl rfl) rfl ?_ -- t192
                              refine WL.on rfl rfl ?_
                              refine WL.y (Yl.pickT rfl rfl) rfl ?_ -- t193
                              refine WL.on rfl rfl ?_
                              refine WL.y (Yl.move rfl) rfl ?_ -- t194
                              refine WL.both (t := 194) rfl (fun g194 => ?_) (fun g194 => ?_)
                              · refine WL.on rfl rfl ?_
                                refine WL.y (Yl.move rfl) rfl ?_ -- t195
                                refine WL.on rfl rfl ?_
                                refine WL.y (Yl.not rfl) rfl ?_ -- t196
                                refine WL.on rfl rfl ?_
                                refine WL.y (Yl.pickT rfl rfl) rfl ?_ -- t197
                                refine WL.y (Yl.pickF rfl rfl) rfl ?_ -- t198
                                refine WL.say (t := 198) (v' := .bool false) rfl (by first | rfl | (clear hV; simp_all; done) | (clear hV; simp_all; omega)) ?_
                                refine WL.nil ?_
                                exact ⟨rfl, (), trivial, (by repeat (first | exact Sub.nil | refine Sub.cons rfl ?_)), _, (by repeat (first | exact TakeL.nil | (apply TakeL.cons; · repeat (first | exact Take1.head | apply Take1.tail))))⟩
                              · refine WL.off rfl rfl rfl rfl ?_ -- t195
                                refine WL.off rfl rfl rfl rfl ?_ -- t196
                                refine WL.on rfl rfl ?_
                                refine WL.y (Yl.pickF rfl rfl) rfl ?_ -- t197
                                refine WL.y (Yl.pickF rfl rfl) rfl ?_ -- t198
                                refine WL.say (t := 198) (v' := .bool false) rfl (by first | rfl | (clear hV; simp_all; done) | (clear hV; simp_all; omega)) ?_
                                refine WL.nil ?_
                                exact ⟨rfl, (), trivial, (by repeat (first | exact Sub.nil | refine Sub.cons rfl ?_)), _, (by repeat (first | exact TakeL.nil | (apply TakeL.cons; · repeat (first | exact Take1.head | apply Take1.tail))))⟩
                            · refine WL.off rfl rfl rfl rfl ?_ -- t190
                              refine WL.off rfl rfl rfl rfl ?_ -- t191
                              refine WL.off rfl rfl rfl rfl ?_ -- t192
                              refine WL.on rfl rfl ?_
                              refine WL.y (Yl.pickF rfl rfl) rfl ?_ -- t193
                              refine WL.on rfl rfl ?_
                              refine WL.y (Yl.move rfl) rfl ?_ -- t194
                              refine WL.off rfl rfl rfl rfl ?_ -- t195
                              refine WL.off rfl rfl rfl rfl ?_ -- t196
                              refine WL.on rfl rfl ?_
                              refine WL.y (Yl.pickF rfl rfl) rfl ?_ -- t197
                              refine WL.y (Yl.pickF rfl rfl) rfl ?_ -- t198
                              refine WL.say (t := 198) (v' := .bool false) rfl (by first | rfl | (clear hV; simp_all; done) | (clear hV; simp_all; omega)) ?_
                              refine WL.nil ?_
                              exact ⟨rfl, (), trivial, (by repeat (first | exact Sub.nil | refine Sub.cons rfl ?_)), _, (by repeat (first | exact TakeL.nil | (apply TakeL.cons; · repeat (first | exact Take1.head | apply Take1.tail))))⟩
                      · refine WL.off rfl rfl rfl rfl ?_ -- t172
                        refine WL.off rfl rfl rfl rfl ?_ -- t173
                        refine WL.off rfl rfl rfl rfl ?_ -- t174
                        refine WL.on rfl rfl ?_
                        refine WL.y (Yl.pickF rfl rfl) rfl ?_ -- t175
                        refine WL.on rfl rfl ?_
                        refine WL.y (Yl.move rfl) rfl ?_ -- t176
                        refine WL.on rfl rfl ?_
                        refine WL.y (Yl.move rfl) rfl ?_ -- t177
                        refine WL.on rfl rfl ?_
                        refine WL.y (Yl.not rfl) rfl ?_ -- t178
                        refine WL.on rfl rfl ?_
                        refine WL.y (Yl.move rfl) rfl ?_ -- t179
                        refine WL.both (t := 179) rfl (fun g179 => ?_) (fun g179 => ?_)
                        · refine WL.on rfl rfl ?_
                          refine WL.y (Yl.move rfl) rfl ?_ -- t180
                          refine WL.on rfl rfl ?_
                          refine WL.y (Yl.move rfl) rfl ?_ -- t181
                          refine WL.on rfl rfl ?_
                          refine WL.y (Yl.eql rfl rfl) rfl ?_ -- t182
                          refine WL.on rfl rfl ?_
                          refine WL.y (Yl.pickT rfl rfl) rfl ?_ -- t183
                          refine WL.on rfl rfl ?_
                          refine WL.y (Yl.pickF rfl rfl) rfl ?_ -- t184
                          refine WL.y (Yl.pickT rfl rfl) rfl ?_ -- t185
                          refine WL.y (Yl.move rfl) rfl ?_ -- t186
                          refine WL.both (t := 186) rfl (fun g186 => ?_) (fun g186 => ?_)
                          · refine WL.off rfl rfl rfl rfl ?_ -- t187
                            refine WL.off rfl rfl rfl rfl ?_ -- t188
                            refine WL.off rfl rfl rfl rfl ?_ -- t189
                            refine WL.offU rfl rfl rfl ?_ -- t190
                            refine WL.offU rfl rfl rfl ?_ -- t191
                            refine WL.offU rfl rfl rfl ?_ -- t192
                            refine WL.off rfl rfl rfl rfl ?_ -- t193
                            refine WL.off rfl rfl rfl rfl ?_ -- t194
                            refine WL.offU rfl rfl rfl ?_ -- t195
                            refine WL.offU rfl rfl rfl ?_ -- t196
                            refine WL.off rfl rfl rfl rfl ?_ -- t197
                            refine WL.y (Yl.pickT rfl rfl) rfl ?_ -- t198
                            refine WL.say (t := 198) (v' := .bool false) rfl (by first | rfl | (clear hV; simp_all; done) | (clear hV; simp_all; omega)) ?_
                            refine WL.nil ?_
                            exact ⟨rfl, (), trivial, (by repeat (first | exact Sub.nil | refine Sub.cons rfl ?_)), _, (by repeat (first | exact TakeL.nil | (apply TakeL.cons; · repeat (first | exact Take1.head | apply Take1.tail))))⟩
                          · refine WL.on rfl rfl ?_
                            refine WL.y (Yl.move rfl) rfl ?_ -- t187
                            refine WL.on rfl rfl ?_
                            refine WL.y (Yl.eql rfl rfl) rfl ?_ -- t188
                            refine WL.on rfl rfl ?_
                            refine WL.y (Yl.move rfl) rfl ?_ -- t189
                            refine WL.both (t := 189) rfl (fun g189 => ?_) (fun g189 => ?_)
                            · refine WL.on rfl rfl ?_
                              refine WL.y (Yl.move rfl) rfl ?_ -- t190
                              refine WL.on rfl rfl ?_
                              refine WL.y (Yl.move rfl) rfl ?_ -- t191
                              refine WL.on rfl rfl ?_
                              refine WL.y (Yl.neq rfl rfl) rfl ?_ -- t192
                              refine WL.on rfl rfl ?_
                              refine WL.y (Yl.pickT rfl rfl) rfl ?_ -- t193
                              refine WL.on rfl rfl ?_
                              refine WL.y (Yl.move rfl) rfl ?_ -- t194
                              refine WL.both (t := 194) rfl (fun g194 => ?_) (fun g194 => ?_)
                              · refine WL.on rfl rfl ?_
                                refine WL.y (Yl.move rfl) rfl ?_ -- t195
                                refine WL.on rfl rfl ?_
                                refine WL.y (Yl.not rfl) rfl ?_ -- t196
                                refine WL.on rfl rfl ?_
                                refine WL.y (Yl.pickT rfl rfl) rfl ?_ -- t197
                                refine WL.y (Yl.pickF rfl rfl) rfl ?_ -- t198
                                refine WL.say (t := 198) (v' := .bool false) rfl (by first | rfl | (clear hV; simp_all; done) | (clear hV; simp_all; omega)) ?_
                                refine WL.nil ?_
                                exact ⟨rfl, (), trivial, (by repeat (first | exact Sub.nil | refine Sub.cons rfl ?_)), _, (by repeat (first | exact TakeL.nil | (apply TakeL.cons; · repeat (first | exact Take1.head | apply Take1.tail))))⟩
                              · refine WL.off rfl rfl rfl rfl ?_ -- t195
                                refine WL.off rfl rfl rfl rfl ?_ -- t196
                                refine WL.on rfl rfl ?_
                                refine WL.y (Yl.pickF rfl rfl) rfl ?_ -- t197
                                refine WL.y (Yl.pickF rfl rfl) rfl ?_ -- t198
                                refine WL.say (t := 198) (v' := .bool false) rfl (by first | rfl | (clear hV; simp_all; done) | (clear hV; simp_all; omega)) ?_
                                refine WL.nil ?_
                                exact ⟨rfl, (), trivial, (by repeat (first | exact Sub.nil | refine Sub.cons rfl ?_)), _, (by repeat (first | exact TakeL.nil | (apply TakeL.cons; · repeat (first | exact Take1.head | apply Take1.tail))))⟩
                            · refine WL.off rfl rfl rfl rfl ?_ -- t190
                              refine WL.off rfl rfl rfl rfl ?_ -- t191
                              refine WL.off rfl rfl rfl rfl ?_ -- t192
                              refine WL.on rfl rfl ?_
                              refine WL.y (Yl.pickF rfl rfl) rfl ?_ -- t193
                              refine WL.on rfl rfl ?_
                              refine WL.y (Yl.move rfl) rfl ?_ -- t194
                              refine WL.off rfl rfl rfl rfl ?_ -- t195
                              refine WL.off rfl rfl rfl rfl ?_ -- t196
                              refine WL.on rfl rfl ?_
                              refine WL.y (Yl.pickF rfl rfl) rfl ?_ -- t197
                              refine WL.y (Yl.pickF rfl rfl) rfl ?_ -- t198
                              refine WL.say (t := 198) (v' := .bool false) rfl (by first | rfl | (clear hV; simp_all; done) | (clear hV; simp_all; omega)) ?_
                              refine WL.nil ?_
                              exact ⟨rfl, (), trivial, (by repeat (first | exact Sub.nil | refine Sub.cons rfl ?_)), _, (by repeat (first | exact TakeL.nil | (apply TakeL.cons; · repeat (first | exact Take1.head | apply Take1.tail))))⟩
                        · refine WL.off rfl rfl rfl rfl ?_ -- t180
                          refine WL.off rfl rfl rfl rfl ?_ -- t181
                          refine WL.off rfl rfl rfl rfl ?_ -- t182
                          refine WL.on rfl rfl ?_
                          refine WL.y (Yl.pickF rfl rfl) rfl ?_ -- t183
                          refine WL.on rfl rfl ?_
                          refine WL.y (Yl.pickF rfl rfl) rfl ?_ -- t184
                          refine WL.y (Yl.pickT rfl rfl) rfl ?_ -- t185
                          refine WL.y (Yl.move rfl) rfl ?_ -- t186
                          refine WL.on rfl rfl ?_
                          refine WL.y (Yl.move rfl) rfl ?_ -- t187
                          refine WL.on rfl rfl ?_
                          refine WL.y (Yl.eql rfl rfl) rfl ?_ -- t188
                          refine WL.on rfl rfl ?_
                          refine WL.y (Yl.move rfl) rfl ?_ -- t189
                          refine WL.both (t := 189) rfl (fun g189 => ?_) (fun g189 => ?_)
                          · refine WL.on rfl rfl ?_
                            refine WL.y (Yl.move rfl) rfl ?_ -- t190
                            refine WL.on rfl rfl ?_
                            refine WL.y (Yl.move rfl) rfl ?_ -- t191
                            refine WL.on rfl rfl ?_
                            refine WL.y (Yl.neq rfl rfl) rfl ?_ -- t192
                            refine WL.on rfl rfl ?_
                            refine WL.y (Yl.pickT rfl rfl) rfl ?_ -- t193
                            refine WL.on rfl rfl ?_
                            refine WL.y (Yl.move rfl) rfl ?_ -- t194
                            refine WL.both (t := 194) rfl (fun g194 => ?_) (fun g194 => ?_)
                            · refine WL.on rfl rfl ?_
                              refine WL.y (Yl.move rfl) rfl ?_ -- t195
                              refine WL.on rfl rfl ?_
                              refine WL.y (Yl.not rfl) rfl ?_ -- t196
                              refine WL.on rfl rfl ?_
                              refine WL.y (Yl.pickT rfl rfl) rfl ?_ -- t197
                              refine WL.y (Yl.pickF rfl rfl) rfl ?_ -- t198
                              refine WL.say (t := 198) (v' := .bool false) rfl (by first | rfl | (clear hV; simp_all; done) | (clear hV; simp_all; omega)) ?_
                              refine WL.nil ?_
                              exact ⟨rfl, (), trivial, (by repeat (first | exact Sub.nil | refine Sub.cons rfl ?_)), _, (by repeat (first | exact TakeL.nil | (apply TakeL.cons; · repeat (first | exact Take1.head | apply Take1.tail))))⟩
                            · refine WL.off rfl rfl rfl rfl ?_ -- t195
                              refine WL.off rfl rfl rfl rfl ?_ -- t196
                              refine WL.on rfl rfl ?_
                              refine WL.y (Yl.pickF rfl rfl) rfl ?_ -- t197
                              refine WL.y (Yl.pickF rfl rfl) rfl ?_ -- t198
                              refine WL.say (t := 198) (v' := .bool false) rfl (by first | rfl | (clear hV; simp_all; done) | (clear hV; simp_all; omega)) ?_
                              refine WL.nil ?_
                              exact ⟨rfl, (), trivial, (by repeat (first | exact Sub.nil | refine Sub.cons rfl ?_)), _, (by repeat (first | exact TakeL.nil | (apply TakeL.cons; · repeat (first | exact Take1.head | apply Take1.tail))))⟩
                          · refine WL.off rfl rfl rfl rfl ?_ -- t190
                            refine WL.off rfl rfl rfl rfl ?_ -- t191
                            refine WL.off rfl rfl rfl rfl ?_ -- t192
                            refine WL.on rfl rfl ?_
                            refine WL.y (Yl.pickF rfl rfl) rfl ?_ -- t193
                            refine WL.on rfl rfl ?_
                            refine WL.y (Yl.move rfl) rfl ?_ -- t194
                            refine WL.off rfl rfl rfl rfl ?_ -- t195
                            refine WL.off rfl rfl rfl rfl ?_ -- t196
                            refine WL.on rfl rfl ?_
                            refine WL.y (Yl.pickF rfl rfl) rfl ?_ -- t197
                            refine WL.y (Yl.pickF rfl rfl) rfl ?_ -- t198
                            refine WL.say (t := 198) (v' := .bool false) rfl (by first | rfl | (clear hV; simp_all; done) | (clear hV; simp_all; omega)) ?_
                            refine WL.nil ?_
                            exact ⟨rfl, (), trivial, (by repeat (first | exact Sub.nil | refine Sub.cons rfl ?_)), _, (by repeat (first | exact TakeL.nil | (apply TakeL.cons; · repeat (first | exact Take1.head | apply Take1.tail))))⟩
                    · refine WL.off rfl rfl rfl rfl ?_ -- t167
                      refine WL.off rfl rfl rfl rfl ?_ -- t168
                      refine WL.off rfl rfl rfl rfl ?_ -- t169
                      refine WL.on rfl rfl ?_
                      refine WL.y (Yl.pickF rfl rfl) rfl ?_ -- t170
                      refine WL.on rfl rfl ?_
                      refine WL.y (Yl.move rfl) rfl ?_ -- t171
                      refine WL.off rfl rfl rfl rfl ?_ -- t172
                      refine WL.off rfl rfl rfl rfl ?_ -- t173
                      refine WL.off rfl rfl rfl rfl ?_ -- t174
                      refine WL.on rfl rfl ?_
                      refine WL.y (Yl.pickF rfl rfl) rfl ?_ -- t175
                      refine WL.on rfl rfl ?_
                      refine WL.y (Yl.move rfl) rfl ?_ -- t176
                      refine WL.on rfl rfl ?_
                      refine WL.y (Yl.move rfl) rfl ?_ -- t177
                      refine WL.on rfl rfl ?_
                      refine WL.y (Yl.not rfl) rfl ?_ -- t178
                      refine WL.on rfl rfl ?_
                      refine WL.y (Yl.move rfl) rfl ?_ -- t179
                      refine WL.both (t := 179) rfl (fun g179 => ?_) (fun g179 => ?_)
                      · refine WL.on rfl rfl ?_
                        refine WL.y (Yl.move rfl) rfl ?_ -- t180
                        refine WL.on rfl rfl ?_
                        refine WL.y (Yl.move rfl) rfl ?_ -- t181
                        refine WL.on rfl rfl ?_
                        refine WL.y (Yl.eql rfl rfl) rfl ?_ -- t182
                        refine WL.on rfl rfl ?_
                        refine WL.y (Yl.pickT rfl rfl) rfl ?_ -- t183
                        refine WL.on rfl rfl ?_
                        refine WL.y (Yl.pickF rfl rfl) rfl ?_ -- t184
                        refine WL.y (Yl.pickT rfl rfl) rfl ?_ -- t185
                        refine WL.y (Yl.move rfl) rfl ?_ -- t186
                        refine WL.both (t := 186) rfl (fun g186 => ?_) (fun g186 => ?_)
                        · refine WL.off rfl rfl rfl rfl ?_ -- t187
                          refine WL.off rfl rfl rfl rfl ?_ -- t188
                          refine WL.off rfl rfl rfl rfl ?_ -- t189
                          refine WL.offU rfl rfl rfl ?_ -- t190
                          refine WL.offU rfl rfl rfl ?_ -- t191
                          refine WL.offU rfl rfl rfl ?_ -- t192
                          refine WL.off rfl rfl rfl rfl ?_ -- t193
                          refine WL.off rfl rfl rfl rfl ?_ -- t194
                          refine WL.offU rfl rfl rfl ?_ -- t195
                          refine WL.offU rfl rfl rfl ?_ -- t196
                          refine WL.off rfl rfl rfl rfl ?_ -- t197
                          refine WL.y (Yl.pickT rfl rfl) rfl ?_ -- t198
                          refine WL.say (t := 198) (v' := .bool false) rfl (by first | rfl | (clear hV; simp_all; done) | (clear hV; simp_all; omega)) ?_
                          refine WL.nil ?_
                          exact ⟨rfl, (), trivial, (by repeat (first | exact Sub.nil | refine Sub.cons rfl ?_)), _, (by repeat (first | exact TakeL.nil | (apply TakeL.cons; · repeat (first | exact Take1.head | apply Take1.tail))))⟩
                        · refine WL.on rfl rfl ?_
                          refine WL.y (Yl.move rfl) rfl ?_ -- t187
                          refine WL.on rfl rfl ?_
                          refine WL.y (Yl.eql rfl rfl) rfl ?_ -- t188
                          refine WL.on rfl rfl ?_
                          refine WL.y (Yl.move rfl) rfl ?_ -- t189
                          refine WL.both (t := 189) rfl (fun g189 => ?_) (fun g189 => ?_)
                          · refine WL.on rfl rfl ?_
                            refine WL.y (Yl.move rfl) rfl ?_ -- t190
                            refine WL.on rfl rfl ?_
                            refine WL.y (Yl.move rfl) rfl ?_ -- t191
                            refine WL.on rfl rfl ?_
                            refine WL.y (Yl.neq rfl rfl) rfl ?_ -- t192
                            refine WL.on rfl rfl ?_
                            refine WL.y (Yl.pickT rfl rfl) rfl ?_ -- t193
                            refine WL.on rfl rfl ?_
                            refine WL.y (Yl.move rfl) rfl ?_ -- t194
                            refine WL.both (t := 194) rfl (fun g194 => ?_) (fun g194 => ?_)
                            · refine WL.on rfl rfl ?_
                              refine WL.y (Yl.move rfl) rfl ?_ -- t195
                              refine WL.on rfl rfl ?_
                              refine WL.y (Yl.not rfl) rfl ?_ -- t196
                              refine WL.on rfl rfl ?_
                              refine WL.y (Yl.pickT rfl rfl) rfl ?_ -- t197
                              refine WL.y (Yl.pickF rfl rfl) rfl ?_ -- t198
                              refine WL.say (t := 198) (v' := .bool false) rfl (by first | rfl | (clear hV; simp_all; done) | (clear hV; simp_all; omega)) ?_
                              refine WL.nil ?_
                              exact ⟨rfl, (), trivial, (by repeat (first | exact Sub.nil | refine Sub.cons rfl ?_)), _, (by repeat (first | exact TakeL.nil | (apply TakeL.cons; · repeat (first | exact Take1.head | apply Take1.tail))))⟩
                            · refine WL.off rfl rfl rfl rfl ?_ -- t195
                              refine WL.off rfl rfl rfl rfl ?_ -- t196
                              refine WL.on rfl rfl ?_
                              refine WL.y (Yl.pickF rfl rfl) rfl ?_ -- t197
                              refine WL.y (Yl.pickF rfl rfl) rfl ?_ -- t198
                              refine WL.say (t := 198) (v' := .bool false) rfl (by first | rfl | (clear hV; simp_all; done) | (clear hV; simp_all; omega)) ?_
                              refine WL.nil ?_
                              exact ⟨rfl, (), trivial, (by repeat (first | exact Sub.nil | refine Sub.cons rfl ?_)), _, (by repeat (first | exact TakeL.nil | (apply TakeL.cons; · repeat (first | exact Take1.head | apply Take1.tail))))⟩
                          · refine WL.off rfl rfl rfl rfl ?_ -- t190
                            refine WL.off rfl rfl rfl rfl ?_ -- t191
                            refine WL.off rfl rfl rfl rfl ?_ -- t192
                            refine WL.on rfl rfl ?_
                            refine WL.y (Yl.pickF rfl rfl) rfl ?_ -- t193
                            refine WL.on rfl rfl ?_
                            refine WL.y (Yl.move rfl) rfl ?_ -- t194
                            refine WL.off rfl rfl rfl rfl ?_ -- t195
                            refine WL.off rfl rfl rfl rfl ?_ -- t196
                            refine WL.on rfl rfl ?_
                            refine WL.y (Yl.pickF rfl rfl) rfl ?_ -- t197
                            refine WL.y (Yl.pickF rfl rfl) rfl ?_ -- t198
                            refine WL.say (t := 198) (v' := .bool false) rfl (by first | rfl | (clear hV; simp_all; done) | (clear hV; simp_all; omega)) ?_
                            refine WL.nil ?_
                            exact ⟨rfl, (), trivial, (by repeat (first | exact Sub.nil | refine Sub.cons rfl ?_)), _, (by repeat (first | exact TakeL.nil | (apply TakeL.cons; · repeat (first | exact Take1.head | apply Take1.tail))))⟩
                      · refine WL.off rfl rfl rfl rfl ?_ -- t180
                        refine WL.off rfl rfl rfl rfl ?_ -- t181
                        refine WL.off rfl rfl rfl rfl ?_ -- t182
                        refine WL.on rfl rfl ?_
                        refine WL.y (Yl.pickF rfl rfl) rfl ?_ -- t183
                        refine WL.on rfl rfl ?_
                        refine WL.y (Yl.pickF rfl rfl) rfl ?_ -- t184
                        refine WL.y (Yl.pickT rfl rfl) rfl ?_ -- t185
                        refine WL.y (Yl.move rfl) rfl ?_ -- t186
                        refine WL.on rfl rfl ?_
                        refine WL.y (Yl.move rfl) rfl ?_ -- t187
                        refine WL.on rfl rfl ?_
                        refine WL.y (Yl.eql rfl rfl) rfl ?_ -- t188
                        refine WL.on rfl rfl ?_
                        refine WL.y (Yl.move rfl) rfl ?_ -- t189
                        refine WL.both (t := 189) rfl (fun g189 => ?_) (fun g189 => ?_)
                        · refine WL.on rfl rfl ?_
                          refine WL.y (Yl.move rfl) rfl ?_ -- t190
                          refine WL.on rfl rfl ?_
                          refine WL.y (Yl.move rfl) rfl ?_ -- t191
                          refine WL.on rfl rfl ?_
                          refine WL.y (Yl.neq rfl rfl) rfl ?_ -- t192
                          refine WL.on rfl rfl ?_
                          refine WL.y (Yl.pickT rfl rfl) rfl ?_ -- t193
                          refine WL.on rfl rfl ?_
                          refine WL.y (Yl.move rfl) rfl ?_ -- t194
                          refine WL.both (t := 194) rfl (fun g194 => ?_) (fun g194 => ?_)
                          · refine WL.on rfl rfl ?_
                            refine WL.y (Yl.move rfl) rfl ?_ -- t195
                            refine WL.on rfl rfl ?_
                            refine WL.y (Yl.not rfl) rfl ?_ -- t196
                            refine WL.on rfl rfl ?_
                            refine WL.y (Yl.pickT rfl rfl) rfl ?_ -- t197
                            refine WL.y (Yl.pickF rfl rfl) rfl ?_ -- t198
                            refine WL.say (t := 198) (v' := .bool false) rfl (by first | rfl | (clear hV; simp_all; done) | (clear hV; simp_all; omega)) ?_
                            refine WL.nil ?_
                            exact ⟨rfl, (), trivial, (by repeat (first | exact Sub.nil | refine Sub.cons rfl ?_)), _, (by repeat (first | exact TakeL.nil | (apply TakeL.cons; · repeat (first | exact Take1.head | apply Take1.tail))))⟩
                          · refine WL.off rfl rfl rfl rfl ?_ -- t195
                            refine WL.off rfl rfl rfl rfl ?_ -- t196
                            refine WL.on rfl rfl ?_
                            refine WL.y (Yl.pickF rfl rfl) rfl ?_ -- t197
                            refine WL.y (Yl.pickF rfl rfl) rfl ?_ -- t198
                            refine WL.say (t := 198) (v' := .bool false) rfl (by first | rfl | (clear hV; simp_all; done) | (clear hV; simp_all; omega)) ?_
                            refine WL.nil ?_
                            exact ⟨rfl, (), trivial, (by repeat (first | exact Sub.nil | refine Sub.cons rfl ?_)), _, (by repeat (first | exact TakeL.nil | (apply TakeL.cons; · repeat (first | exact Take1.head | apply Take1.tail))))⟩
                        · refine WL.off rfl rfl rfl rfl ?_ -- t190
                          refine WL.off rfl rfl rfl rfl ?_ -- t191
                          refine WL.off rfl rfl rfl rfl ?_ -- t192
                          refine WL.on rfl rfl ?_
                          refine WL.y (Yl.pickF rfl rfl) rfl ?_ -- t193
                          refine WL.on rfl rfl ?_
                          refine WL.y (Yl.move rfl) rfl ?_ -- t194
                          refine WL.off rfl rfl rfl rfl ?_ -- t195
                          refine WL.off rfl rfl rfl rfl ?_ -- t196
                          refine WL.on rfl rfl ?_
                          refine WL.y (Yl.pickF rfl rfl) rfl ?_ -- t197
                          refine WL.y (Yl.pickF rfl rfl) rfl ?_ -- t198
                          refine WL.say (t := 198) (v' := .bool false) rfl (by first | rfl | (clear hV; simp_all; done) | (clear hV; simp_all; omega)) ?_
                          refine WL.nil ?_
                          exact ⟨rfl, (), trivial, (by repeat (first | exact Sub.nil | refine Sub.cons rfl ?_)), _, (by repeat (first | exact TakeL.nil | (apply TakeL.cons; · repeat (first | exact Take1.head | apply Take1.tail))))⟩
                  · refine WL.off rfl rfl rfl rfl ?_ -- t165
                    refine WL.off rfl rfl rfl rfl ?_ -- t166
                    refine WL.offU rfl rfl rfl ?_ -- t167
                    refine WL.offU rfl rfl rfl ?_ -- t168
                    refine WL.offU rfl rfl rfl ?_ -- t169
                    refine WL.off rfl rfl rfl rfl ?_ -- t170
                    refine WL.off rfl rfl rfl rfl ?_ -- t171
                    refine WL.offU rfl rfl rfl ?_ -- t172
                    refine WL.offU rfl rfl rfl ?_ -- t173
                    refine WL.offU rfl rfl rfl ?_ -- t174
                    refine WL.off rfl rfl rfl rfl ?_ -- t175
                    refine WL.off rfl rfl rfl rfl ?_ -- t176
                    refine WL.offU rfl rfl rfl ?_ -- t177
                    refine WL.offU rfl rfl rfl ?_ -- t178
                    refine WL.offU rfl rfl rfl ?_ -- t179
                    refine WL.offU rfl rfl rfl ?_ -- t180
                    refine WL.offU rfl rfl rfl ?_ -- t181
                    refine WL.offU rfl rfl rfl ?_ -- t182
                    refine WL.offU rfl rfl rfl ?_ -- t183
                    refine WL.off rfl rfl rfl rfl ?_ -- t184
                    refine WL.y (Yl.pickF rfl rfl) rfl ?_ -- t185
                    refine WL.y (Yl.move rfl) rfl ?_ -- t186
                    refine WL.on rfl rfl ?_
                    refine WL.y (Yl.move rfl) rfl ?_ -- t187
                    refine WL.on rfl rfl ?_
                    refine WL.y (Yl.eql rfl rfl) rfl ?_ -- t188
                    refine WL.on rfl rfl ?_
                    refine WL.y (Yl.move rfl) rfl ?_ -- t189
                    refine WL.both (t := 189) rfl (fun g189 => ?_) (fun g189 => ?_)
                    · refine WL.on rfl rfl ?_
                      refine WL.y (Yl.move rfl) rfl ?_ -- t190
                      refine WL.on rfl rfl ?_
                      refine WL.y (Yl.move rfl) rfl ?_ -- t191
                      refine WL.on rfl rfl ?_
                      refine WL.y (Yl.neq rfl rfl) rfl ?_ -- t192
                      refine WL.on rfl rfl ?_
                      refine WL.y (Yl.pickT rfl rfl) rfl ?_ -- t193
                      refine WL.on rfl rfl ?_
                      refine WL.y (Yl.move rfl) rfl ?_ -- t194
                      refine WL.both (t := 194) rfl (fun g194 => ?_) (fun g194 => ?_)
                      · refine WL.on rfl rfl ?_
                        refine WL.y (Yl.move rfl) rfl ?_ -- t195
                        refine WL.on rfl rfl ?_
                        refine WL.y (Yl.not rfl) rfl ?_ -- t196
                        refine WL.on rfl rfl ?_
                        refine WL.y (Yl.pickT rfl rfl) rfl ?_ -- t197
                        refine WL.y (Yl.pickF rfl rfl) rfl ?_ -- t198
                        refine WL.say (t := 198) (v' := .bool false) rfl (by first | rfl | (clear hV; simp_all; done) | (clear hV; simp_all; omega)) ?_
                        refine WL.nil ?_
                        exact ⟨rfl, (), trivial, (by repeat (first | exact Sub.nil | refine Sub.cons rfl ?_)), _, (by repeat (first | exact TakeL.nil | (apply TakeL.cons; · repeat (first | exact Take1.head | apply Take1.tail))))⟩
                      · refine WL.off rfl rfl rfl rfl ?_ -- t195
                        refine WL.off rfl rfl rfl rfl ?_ -- t196
                        refine WL.on rfl rfl ?_
                        refine WL.y (Yl.pickF rfl rfl) rfl ?_ -- t197
                        refine WL.y (Yl.pickF rfl rfl) rfl ?_ -- t198
                        refine WL.say (t := 198) (v' := .bool false) rfl (by first | rfl | (clear hV; simp_all; done) | (clear hV; simp_all; omega)) ?_
                        refine WL.nil ?_
                        exact ⟨rfl, (), trivial, (by repeat (first | exact Sub.nil | refine Sub.cons rfl ?_)), _, (by repeat (first | exact TakeL.nil | (apply TakeL.cons; · repeat (first | exact Take1.head | apply Take1.tail))))⟩
                    · refine WL.off rfl rfl rfl rfl ?_ -- t190
                      refine WL.off rfl rfl rfl rfl ?_ -- t191
                      refine WL.off rfl rfl rfl rfl ?_ -- t192
                      refine WL.on rfl rfl ?_
                      refine WL.y (Yl.pickF rfl rfl) rfl ?_ -- t193
                      refine WL.on rfl rfl ?_
                      refine WL.y (Yl.move rfl) rfl ?_ -- t194
                      refine WL.off rfl rfl rfl rfl ?_ -- t195
                      refine WL.off rfl rfl rfl rfl ?_ -- t196
                      refine WL.on rfl rfl ?_
                      refine WL.y (Yl.pickF rfl rfl) rfl ?_ -- t197
                      refine WL.y (Yl.pickF rfl rfl) rfl ?_ -- t198
                      refine WL.say (t := 198) (v' := .bool false) rfl (by first | rfl | (clear hV; simp_all; done) | (clear hV; simp_all; omega)) ?_
                      refine WL.nil ?_
                      exact ⟨rfl, (), trivial, (by repeat (first | exact Sub.nil | refine Sub.cons rfl ?_)), _, (by repeat (first | exact TakeL.nil | (apply TakeL.cons; · repeat (first | exact Take1.head | apply Take1.tail))))⟩
                · rintro ⟨⟩ -
                  dsimp only [List.cons_append, List.nil_append]
                  refine WC.condF rfl (by first | rfl | (simp; done) | (simp; omega)) ?_
                  refine WC.skip ?_
                  refine WC.region ?_
                  refine WL.y (Yl.add rfl rfl (IntWalk.i64_in _ (by omega))) rfl ?_ -- t199
                  refine WL.y (Yl.move rfl) rfl ?_ -- t36
                  refine WL.nil ?_
                  exact ⟨(i + 1, es', Dn), rfl, ⟨by dsimp only; omega, hE', hG'.inv⟩, by dsimp only; omega, (by repeat (first | exact Sub.nil | refine Sub.cons rfl ?_)), _, (by repeat (first | exact TakeL.nil | (apply TakeL.cons; · repeat (first | exact Take1.head | apply Take1.tail))))⟩
    · refine WC.exit ?_
      refine WC.seq ?_
      refine WC.view (fun w h => h.markEnd (Dl := Dl) (by repeat (first | exact Take1.head | apply Take1.tail))) ?_
      dsimp only [List.cons_append, List.nil_append]
      refine WC.region ?_
      refine WL.y (Yl.assign rfl) rfl ?_ -- t2
      refine WL.nil ?_
      refine WC.ret ?_
      repeat (first | (with_reducible refine peelT ?_) | (with_reducible refine peelB ?_) | (with_reducible refine peelTX ?_) | (with_reducible refine peelBX ?_) | (with_reducible refine peelBN ?_) | (with_reducible refine peelBO rfl ?_))
      refine retM.of (marks_end Dl (bkL b ao cp mb 0 own es ++ [rdR (.slice al l.length cl) 36 l.length (vcs duV l), rdR mxV 1 1 [.int .i64 m]])) ?_
      exact ret1 (.inr rfl) Tryz.results5 rfl fun w' h => ⟨(), trivial, rfl, h.sub (by repeat (first | exact TakeL.nil | (apply TakeL.cons; · repeat (first | exact Take1.head | apply Take1.tail))))⟩
end Go.Proofs.YtfobhdmhjjafcaaGreatDoorRR

namespace Go.Proofs.YtfobhdmhjjafcaaGreatDoorRR
open Go Go.RowKit
theorem fits_two {k k' : IntKind} {cs : List Value} (h : Fits1 [some k, some k'] cs) : ∃ y z : Int, cs = [.int k y, .int k' z] ∧ (Lit.int k y).wf = true ∧ (Lit.int k' z).wf = true := by
  match cs, h with
  | [.int q y, .int q' z], h => obtain ⟨⟨rfl, hw⟩, ⟨rfl, hw'⟩, _⟩ := h; exact ⟨y, z, rfl, hw, hw'⟩
theorem du_flat (l : List Du) : (l.map Du.cells).flatten = vcs duV l := by
  induction l with
  | nil => rfl
  | cons f fs ih => rw [List.map_cons, List.flatten_cons, ih, vcs_cons]; rfl
section
variable {H : Type} {enc : TypeId × Value → H} {w : World} {base : Nat} {sp : Nat → Bool} {held : Bool}
theorem open_du (n : Nat) (cs : List Value) (d : DataW H × List MemPlace) (h : DataW.trod enc Tryz.prog w base sp held n 50 cs = some d) : ∃ f : Du, cs = f.cells ∧ f.ok := by
  have hl := (open_fieldAtL (i := 0) (ft := 5) (off := 0) (c := 1) (by kernel_rfl) h).1
  rw [show Tryz.prog.cellsOf 50 = 36 by kernel_rfl] at hl
  obtain ⟨k, e0, w0⟩ := fits_int (open_fieldFL (i := 0) (ft := 5) (off := 0) (c := 1) (d := 5) (ks := [some .u8]) (by kernel_rfl) (by kernel_rfl) h)
  obtain ⟨a, b, e1, w1, w2⟩ := fits_two (open_fieldFL (i := 1) (ft := 40) (off := 1) (c := 2) (d := 5) (ks := [some .u8, some .u8]) (by kernel_rfl) (by kernel_rfl) h)
  obtain ⟨key, e3⟩ := key_of (open_fieldFL (i := 2) (ft := 30) (off := 3) (c := 32) (d := 5) (ks := List.replicate 32 (some .u8)) (by kernel_rfl) (by kernel_rfl) h)
  obtain ⟨_, m, y, hy, _⟩ := open_fieldAtL (i := 3) (ft := 9) (off := 35) (c := 1) (by kernel_rfl) h
  obtain ⟨s, e4, _, _⟩ := DataW.trod_string (by kernel_rfl) hy
  refine ⟨⟨k, a, b, key, s⟩, ?_, ⟨wf_u8 w0, wf_u8 w1, wf_u8 w2⟩⟩
  have s0 := step_drop 0 1 _ e0
  have s1 := step_drop 1 2 _ e1
  have s3 := step_drop 3 32 _ e3
  have s4 := step_drop 35 1 _ e4
  have s5 : cs.drop 36 = [] := List.drop_eq_nil_iff.2 (by omega)
  rw [List.drop_zero] at s0
  rw [s0, s1, s3, s4, s5]
  rfl
theorem open_dus {a : Option Addr} {len cap : Nat} {x : DataW H} {p : List MemPlace} (h : DataW.Trod enc Tryz.prog w base sp held 47 (.slice a len cap) x p) :
    ∃ fs : List Du, fs.length = len ∧ len ≤ Rows.uptoBulk x ∧ (∀ f ∈ fs, f.ok) ∧ Rd w 36 (.slice a len cap) len (vcs duV fs) := by
  obtain ⟨fs, h1, h2, h3, h4⟩ := mu_rows bulkMu (size := 36) Du.cells Du.ok (by kernel_rfl) (by kernel_rfl) (fun n cs d hd _ => open_du n cs d hd) h
  exact ⟨fs, h1, h2, h3, by rw [← du_flat]; exact h4⟩
end
end Go.Proofs.YtfobhdmhjjafcaaGreatDoorRR
