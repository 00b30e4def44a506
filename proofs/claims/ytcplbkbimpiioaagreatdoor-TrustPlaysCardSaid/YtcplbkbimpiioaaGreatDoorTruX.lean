/- Books: a key is forgotten: the walks. -/
import Derived.Test.YtcplbkbimpiioaaGreatDoorTruR
namespace Go.Proofs.YtcplbkbimpiioaaGreatDoor
open Go Go.RowKit
/-- What Forget answers (of a device that may be), and what it leaves. -/
def hasAtC (l : Cs) (a : Int) (i : Nat) : Bool := match mget l a with
  | none => false
  | some c => c.has.getD i false
def fgE (l : Cs) (a : Int) (i : Nat) : Int := if hasAtC l a i then 0 else 4
def forgetC (l : Cs) (a : Int) (i : Nat) : Cs := match mget l a with
  | none => l
  | some c => if c.has.getD i false then (if (forgetT c i).kys.length = 0 then mdel l a else mput l a (forgetT c i)) else l
theorem forget_bad (b : Nat) (v1 v2 : Value) (acc a d : Int) (hm : mayF acc a d = 2) (w : World) (hw : OK w (fpL [blkR b 67 [.int .u8 acc, v1, v2]]) [blkR b 67 [.int .u8 acc, v1, v2]] w) :
    Fn Tryz.prog 8 [.pointer (some ⟨b, 0, none⟩), .agg #[.int .u8 a, .int .u8 d]] [blkR b 67 [.int .u8 acc, v1, v2]] w (fun _ : Unit => True) (fun _ => .int .i64 2) (fun _ => [blkR b 67 [.int .u8 acc, v1, v2]]) := by
  refine enterF Tryz.func8 rfl Tryz.ntmps8 rfl hw ?_
  refine WC.seq ?_
  refine WC.region ?_
  refine WL.to (To.box (cs := [.int .u8 a, .int .u8 d]) rfl rfl) rfl ?_
  intro b3
  refine WL.y (Yl.assign rfl) rfl ?_
  refine WL.nil ?_
  refine WC.seq ?_
  refine WC.seq ?_
  refine WC.region ?_
  refine WL.y (Yl.move rfl) rfl ?_
  refine WL.y (Yl.loadN ag40 rfl (by repeat constructor) (by rfl) (by rfl)) rfl ?_
  refine WL.callC (xs := [.tmp 7, .tmp 8]) (cap := []) rfl rfl en25 (by repeat' constructor) (fun w hw => may_any b v1 v2 acc a d w hw.left.here) rfl ?_
  rintro ⟨⟩ -
  rw [hm]
  refine WL.y (Yl.assign rfl) rfl ?_
  refine WL.nil ?_
  refine WC.seq ?_
  refine WC.region ?_
  refine WL.y (Yl.move rfl) rfl ?_
  refine WL.y (Yl.neq rfl rfl) rfl ?_
  refine WL.nil ?_
  refine WC.condT rfl (by first | rfl | (simp; done) | (simp; omega)) ?_
  refine WC.seq ?_
  refine WC.region ?_
  refine WL.y (Yl.move rfl) rfl ?_
  refine WL.y (Yl.assign rfl) rfl ?_
  refine WL.nil ?_
  refine WC.ret ?_
  repeat (with_reducible (first | refine peelT ?_ | refine peelB ?_ | refine peelTX ?_ | refine peelBX ?_ | refine peelBN ?_ | refine peelBO rfl ?_))
  exact ret1 (.inr rfl) Tryz.results8 rfl fun w' h => ⟨(), trivial, rfl, h.sub (by repeat' constructor)⟩
set_option maxRecDepth 100000 in
theorem forget_no (b : Nat) (ao : Option Addr) (cp mb : Nat) (acc : Int) (own : List Ky) (es : Es) (hE : EG es) (a : Int) (ha : 0 ≤ a ∧ a < 256) (i : Nat) (hi : i < 4) (hm : mayF acc a (i : Int) = 0) (h1 : mget (pm es) a = none) (w : World) (hw : OK w (fpL (bkL b ao cp mb acc own es)) (bkL b ao cp mb acc own es) w) :
    Fn Tryz.prog 8 [.pointer (some ⟨b, 0, none⟩), .agg #[.int .u8 a, .int .u8 (i : Int)]] (bkL b ao cp mb acc own es) w (fun _ : Unit => True) (fun _ => .int .i64 4) (fun _ => bkL b ao cp mb acc own es) := by
  refine enterF Tryz.func8 rfl Tryz.ntmps8 rfl hw ?_
  refine WC.seq ?_
  refine WC.region ?_
  refine WL.to (To.box (cs := [.int .u8 a, .int .u8 (i : Int)]) rfl rfl) rfl ?_
  intro b3
  refine WL.y (Yl.assign rfl) rfl ?_
  refine WL.nil ?_
  refine WC.seq ?_
  refine WC.seq ?_
  refine WC.region ?_
  refine WL.y (Yl.move rfl) rfl ?_
  refine WL.y (Yl.loadN ag40 rfl (by repeat constructor) (by rfl) (by rfl)) rfl ?_
  refine WL.callC (xs := [.tmp 7, .tmp 8]) (cap := []) rfl rfl en25 (by repeat' constructor) (fun w hw => may_any b (.slice ao own.length cp) (.map (some mb)) acc a (i : Int) w hw.left.here) rfl ?_
  rintro ⟨⟩ -
  rw [hm]
  dsimp only [List.cons_append, List.nil_append]
  refine WL.y (Yl.assign rfl) rfl ?_
  refine WL.nil ?_
  refine WC.seq ?_
  refine WC.region ?_
  refine WL.y (Yl.move rfl) rfl ?_
  refine WL.y (Yl.neq rfl rfl) rfl ?_
  refine WL.nil ?_
  refine WC.condF rfl (by first | rfl | (simp; done) | (simp; omega)) ?_
  refine WC.skip ?_
  refine WC.seq ?_
  refine WC.drawRead mixed (by kernel_rfl) ?_
  refine WH.y (Yl.move rfl) rfl ?_
  refine WH.y (Yl.nilCheck rfl) rfl ?_
  refine WH.y (Yl.field fo67_2 rfl) rfl ?_
  refine WH.y (Yl.load on65 rfl (by repeat constructor) (by rfl)) rfl ?_
  refine WH.y (Yl.field fo40_0 rfl) rfl ?_
  refine WH.y (Yl.load on5 rfl (by repeat constructor) (by rfl)) rfl ?_
  refine WH.y (Yl.lookup (kv := Value.int .u8) (vv := ptV) (m := pm es) (z := .pointer none) keyU8 un65 zPC hE.pmk rfl rfl (u8_wf ha) (MReads.of (m := pm es) MapOf.own (by repeat constructor))) rfl ?_
  rw [h1]
  dsimp only [Option.map_none, Option.getD_none]
  refine WH.y (Yl.assign rfl) rfl ?_
  refine WH.nil ?_
  refine WC.seq ?_
  refine WC.seq ?_
  refine WC.drawRead mixed (by kernel_rfl) ?_
  refine WH.y (Yl.move rfl) rfl ?_
  refine WH.y (Yl.nilEq un68 rfl rfl) rfl ?_
  refine WH.y (Yl.move rfl) rfl ?_
  refine WH.know (t := 22) (b' := true) rfl (by first | rfl | (simp; done) | (simp; omega)) ?_
  refine WH.off rfl rfl rfl rfl ?_
  refine WH.off rfl rfl rfl rfl ?_
  refine WH.off rfl rfl rfl rfl ?_
  refine WH.off rfl rfl rfl rfl ?_
  refine WH.off rfl rfl rfl rfl ?_
  refine WH.off rfl rfl rfl rfl ?_
  refine WH.off rfl rfl rfl rfl ?_
  refine WH.off rfl rfl rfl rfl ?_
  refine WH.y (Yl.pickT rfl rfl) rfl ?_
  refine WH.know (t := 31) (b' := true) rfl (by first | rfl | (simp; done) | (simp; omega)) ?_
  refine WH.nil ?_
  refine WC.condT rfl (by first | rfl | (simp; done) | (simp; omega)) ?_
  refine WC.seq ?_
  refine WC.region ?_
  refine WL.y (Yl.assign rfl) rfl ?_
  refine WL.nil ?_
  refine WC.ret ?_
  repeat (with_reducible (first | refine peelT ?_ | refine peelB ?_ | refine peelTX ?_ | refine peelBX ?_ | refine peelBN ?_ | refine peelBO rfl ?_))
  exact ret1 (.inr rfl) Tryz.results8 rfl fun w' h => ⟨(), trivial, rfl, h.sub (by repeat' constructor)⟩
theorem map_eraseK {α β : Type} (f : α → β) : ∀ (l : List α) (i : Nat), (l.map f).eraseIdx i = (l.eraseIdx i).map f
  | [], _ => rfl
  | _ :: _, 0 => rfl
  | x :: l, i + 1 => by rw [List.map_cons, List.eraseIdx_cons_succ, List.eraseIdx_cons_succ, List.map_cons, map_eraseK f l i]
theorem WP.eff {c : Cx} {Q : SQ} {env : Env} {ds : List Deferred} {H H' : List Res} {ops : Array Oper} {rest : List Oper} {op : Op} {ty : TypeId} {pos : String} {af : Array Edge} (h : Eff c env ds H ⟨none, op, ty, pos, af, none⟩ H') (k : WP c ops Q rest env ds H') : WP c ops Q (⟨none, op, ty, pos, af, none⟩ :: rest) env ds H :=
  ⟨fun a w ha hw => wpList_plain rfl fun K hK => by
    obtain ⟨v, w', h1, h2⟩ := h a w ha hw
    unfold Oper.wp
    rw [h1]
    exact hK _ _ (k.run _ _ (ha.putNone _) h2)⟩
theorem EG.ndm {es : Es} (h : EG es) : mnd (pm es) := by
  have := h.nd
  unfold mnd pj at this
  unfold mnd pm
  rw [List.pairwise_map] at this ⊢
  exact this
theorem EG.erase {es : Es} (h : EG es) {j : Nat} {a : Int} {nb : Nat} {c : Ct} (hj : es[j]? = some (a, nb, c)) : EG (es.eraseIdx j) ∧ pj (es.eraseIdx j) = mdel (pj es) a ∧ pm (es.eraseIdx j) = mdel (pm es) a := by
  have hp : (pj es)[j]? = some (a, c) := by unfold pj; rw [List.getElem?_map, hj]; rfl
  have hq : (pm es)[j]? = some (a, nb) := by unfold pm; rw [List.getElem?_map, hj]; rfl
  have e1 : pj (es.eraseIdx j) = mdel (pj es) a := by
    rw [del_same h.nd hp]; unfold pj; rw [map_eraseK]
  have e2 : pm (es.eraseIdx j) = mdel (pm es) a := by
    rw [del_same h.ndm hq]; unfold pm; rw [map_eraseK]
  exact ⟨⟨fun e he => h.key e (List.mem_of_mem_eraseIdx he), fun e he => h.ct e (List.mem_of_mem_eraseIdx he), by rw [e1]; exact mdel_nd h.nd _⟩, e1, e2⟩
set_option maxHeartbeats 1600000 in
set_option maxRecDepth 100000 in
theorem forget_old (b : Nat) (ao : Option Addr) (cp mb : Nat) (acc : Int) (own : List Ky) (es : Es) (hE : EG es) (a : Int) (ha : 0 ≤ a ∧ a < 256) (i : Nat) (hi : i < 4) (hm : mayF acc a (i : Int) = 0) (j nb : Nat) (c : Ct) (hj : es[j]? = some (a, nb, c)) (h1 : mget (pm es) a = some nb) (h2 : mget (pj es) a = some c) (w : World) (hw : OK w (fpL (bkL b ao cp mb acc own es)) (bkL b ao cp mb acc own es) w) :
    Fn Tryz.prog 8 [.pointer (some ⟨b, 0, none⟩), .agg #[.int .u8 a, .int .u8 (i : Int)]] (bkL b ao cp mb acc own es) w (fun es' : Es => pj es' = forgetC (pj es) a i ∧ EG es') (fun _ => .int .i64 (fgE (pj es) a i)) (fun es' => bkL b ao cp mb acc own es') := by
  have hok := hE.ct _ (List.mem_of_getElem? hj)
  dsimp only at hok
  have hjl := (List.getElem?_eq_some_iff.1 hj).1
  obtain ⟨hd, hb⟩ : ∃ hd, c.has[i]? = some hd := ⟨_, List.getElem?_eq_getElem (by rw [hok.hl]; exact hi)⟩
  have hb2 : c.has.getD i false = hd := by rw [List.getD_eq_getElem?_getD, hb]; rfl
  have hat : hasAtC (pj es) a i = hd := by unfold hasAtC; rw [h2]; exact hb2
  have hfc : forgetC (pj es) a i = if hd = true then (if (forgetT c i).kys.length = 0 then mdel (pj es) a else mput (pj es) a (forgetT c i)) else pj es := by unfold forgetC; rw [h2]; dsimp only; rw [hb2]
  have hokF := forgetT_ok hok i
  have hokM : (⟨c.ks.set i Ky.zero, c.has.set i false, c.st⟩ : Ct).ok := ⟨by dsimp only; rw [List.length_set, hok.kl], by dsimp only; rw [List.length_set, hok.hl]⟩
  unfold fgE
  rw [hat, hfc]
  refine enterF Tryz.func8 rfl Tryz.ntmps8 rfl hw ?_
  refine WC.seq ?_
  refine WC.region ?_
  refine WL.to (To.box (cs := [.int .u8 a, .int .u8 (i : Int)]) rfl rfl) rfl ?_
  intro b3
  refine WL.y (Yl.assign rfl) rfl ?_
  refine WL.nil ?_
  refine WC.seq ?_
  refine WC.seq ?_
  refine WC.region ?_
  refine WL.y (Yl.move rfl) rfl ?_
  refine WL.y (Yl.loadN ag40 rfl (by repeat constructor) (by rfl) (by rfl)) rfl ?_
  refine WL.callC (xs := [.tmp 7, .tmp 8]) (cap := []) rfl rfl en25 (by repeat' constructor) (fun w hw => may_any b (.slice ao own.length cp) (.map (some mb)) acc a (i : Int) w hw.left.here) rfl ?_
  rintro ⟨⟩ -
  rw [hm]
  dsimp only [List.cons_append, List.nil_append]
  refine WL.y (Yl.assign rfl) rfl ?_
  refine WL.nil ?_
  refine WC.seq ?_
  refine WC.region ?_
  refine WL.y (Yl.move rfl) rfl ?_
  refine WL.y (Yl.neq rfl rfl) rfl ?_
  refine WL.nil ?_
  refine WC.condF rfl (by first | rfl | (simp; done) | (simp; omega)) ?_
  refine WC.skip ?_
  refine WC.seq ?_
  refine WC.drawRead mixed (by kernel_rfl) ?_
  refine WH.y (Yl.move rfl) rfl ?_
  refine WH.y (Yl.nilCheck rfl) rfl ?_
  refine WH.y (Yl.field fo67_2 rfl) rfl ?_
  refine WH.y (Yl.load on65 rfl (by repeat constructor) (by rfl)) rfl ?_
  refine WH.y (Yl.field fo40_0 rfl) rfl ?_
  refine WH.y (Yl.load on5 rfl (by repeat constructor) (by rfl)) rfl ?_
  refine WH.y (Yl.lookup (kv := Value.int .u8) (vv := ptV) (m := pm es) (z := .pointer none) keyU8 un65 zPC hE.pmk rfl rfl (u8_wf ha) (MReads.of (m := pm es) MapOf.own (by repeat constructor))) rfl ?_
  rw [h1]
  dsimp only [Option.map_some, Option.getD_some, ptV]
  refine WH.y (Yl.assign rfl) rfl ?_
  refine WH.nil ?_
  refine WC.seq ?_
  refine WC.seq ?_
  refine WC.view (fun w h => h.allOut (f := ctR) (by repeat constructor) hj) ?_
  refine WC.drawRead mixed (by kernel_rfl) ?_
  refine WH.y (Yl.move rfl) rfl ?_
  refine WH.y (Yl.nilEq un68 rfl rfl) rfl ?_
  refine WH.y (Yl.move rfl) rfl ?_
  refine WH.know (t := 22) (b' := false) rfl (by first | rfl | (simp; done) | (simp; omega)) ?_
  refine WH.on rfl rfl ?_
  refine WH.y (Yl.move rfl) rfl ?_
  refine WH.on rfl rfl ?_
  refine WH.y (Yl.field fo40_1 rfl) rfl ?_
  refine WH.on rfl rfl ?_
  refine WH.y (Yl.load on5 rfl (by repeat constructor) (by rfl)) rfl ?_
  refine WH.on rfl rfl ?_
  refine WH.y (Yl.nilCheck rfl) rfl ?_
  refine WH.on rfl rfl ?_
  refine WH.y (Yl.field fo70_1 rfl) rfl ?_
  refine WH.on rfl rfl ?_
  refine WH.y (Yl.indexA un30 sz4 rfl rfl rfl (by omega)) rfl ?_
  refine WH.on rfl rfl ?_
  refine WH.y (Yl.load (T := 70) (cs := c.cells) on4 rfl (by repeat constructor) (Ct.hasAt' hok hb (by omega))) rfl ?_
  refine WH.on rfl rfl ?_
  refine WH.y (Yl.not rfl) rfl ?_
  refine WH.y (Yl.pickF rfl rfl) rfl ?_
  refine WH.nil ?_
  refine WC.cond rfl (fun g31 => ?_) (fun g31 => ?_)
  · refine WC.seq ?_
    refine WC.region ?_
    refine WL.y (Yl.assign rfl) rfl ?_
    refine WL.nil ?_
    refine WC.ret ?_
    repeat (with_reducible (first | refine peelT ?_ | refine peelB ?_ | refine peelTX ?_ | refine peelBX ?_ | refine peelBN ?_ | refine peelBO rfl ?_))
    have hf : hd = false := by simpa using g31
    subst hf
    refine ret1 (.inr rfl) Tryz.results8 rfl fun w' h => ⟨es, ⟨by rw [if_neg (by decide)], hE⟩, rfl, (OK.allBack (f := ctR) h (by repeat' constructor) hj).sub (by repeat' constructor)⟩
  · refine WC.skip ?_
    refine WC.seq ?_
    have hf : hd = true := by simpa using g31
    subst hf
    refine WC.drawAny (Hs := [blkR b3 40 [.int .u8 a, .int .u8 (i : Int)]]) mixed (by kernel_rfl) ⟨_, (by repeat' constructor)⟩ ?_
    refine WD.tk 0 rfl (by kernel_rfl) rfl rfl (Yl.move rfl) rfl ?_
    refine WD.tk 1 rfl (by kernel_rfl) rfl rfl (Yl.field fo40_1 rfl) rfl ?_
    refine WD.tk 2 rfl (by kernel_rfl) rfl rfl (Yl.load on5 rfl (by repeat constructor) (by rfl)) rfl ?_
    refine WD.tk 3 rfl (by kernel_rfl) rfl rfl (Yl.move rfl) rfl ?_
    refine WD.tk 4 rfl (by kernel_rfl) rfl rfl (Yl.field fo40_1 rfl) rfl ?_
    refine WD.tk 5 rfl (by kernel_rfl) rfl rfl (Yl.load on5 rfl (by repeat constructor) (by rfl)) rfl ?_
    refine WD.tk 6 rfl (by kernel_rfl) rfl rfl (Yl.build rfl (cs := Ky.zero.cells) (fun _ => by kernel_rfl)) rfl ?_
    refine WD.tk 7 rfl (by kernel_rfl) rfl rfl (Yl.nilCheck rfl) rfl ?_
    refine WD.tk 8 rfl (by kernel_rfl) rfl rfl (Yl.field fo70_1 rfl) rfl ?_
    refine WD.tk 9 rfl (by kernel_rfl) rfl rfl (Yl.indexA un30 sz4 rfl rfl rfl (by omega)) rfl ?_
    refine WD.tk 11 rfl (by kernel_rfl) rfl rfl (Yl.nilCheck rfl) rfl ?_
    refine WD.tk 12 rfl (by kernel_rfl) rfl rfl (Yl.field fo70_0 rfl) rfl ?_
    refine WD.one 10 (by kernel_rfl) ?_
    refine WO.sto rfl rfl .no (Sto.oneP (T := 70) (cs := c.cells) sz4 rfl rfl (by repeat constructor) rfl (by rw [Ct.len hok]; omega) (Ct.setHas' hok hi false (by omega))) ⟨_, (by repeat' constructor)⟩ ?_
    refine WD.tk 13 rfl (by kernel_rfl) rfl rfl (Yl.indexA un33 sz32 rfl rfl rfl (by omega)) rfl ?_
    refine WD.one 14 (by kernel_rfl) ?_
    refine WO.sto rfl rfl .no (Sto.aggP (T := 70) (cs := ({ c with has := c.has.set i false } : Ct).cells) sz32 rfl rfl (by repeat constructor) Ky.zero.ones Ky.zero.clen (by rw [Ct.len (Ct.okHas hok i false)]; omega) (Ct.setKey' (Ct.okHas hok i false) hi Ky.zero (by omega) (by omega))) ⟨_, (by repeat' constructor)⟩ ?_
    refine WD.done (by kernel_rfl) ?_
    refine WC.midX (α := Unit) (fun _ => [(0, .pointer (some ⟨b, 0, none⟩)), (3, .pointer (some ⟨b3, 0, none⟩)), (6, .pointer (some ⟨nb, 0, none⟩))]) (fun _ => [blkR b3 40 [.int .u8 a, .int .u8 (i : Int)], blkR nb 70 (forgetT c i).cells, blkR b 67 [.int .u8 acc, .slice ao own.length cp, .map (some mb)], rwK (.slice ao own.length cp) own.length own, mapR (Value.int .u8) ptV mb (pm es), allR ((es.eraseIdx j).map ctR)]) (fun _ => True) ?_ ?_
    · refine WC.seq ?_
      refine WC.region ?_
      refine WL.y (Yl.move rfl) rfl ?_
      refine WL.y (Yl.nilCheck rfl) rfl ?_
      refine WL.y (Yl.field fo70_2 rfl) rfl ?_
      refine WL.y (Yl.load (T := 70) (cs := (⟨c.ks.set i Ky.zero, c.has.set i false, c.st⟩ : Ct).cells) on5 rfl (by repeat constructor) (Ct.stAt hokM)) rfl ?_
      refine WL.y (Yl.eql rfl rfl) rfl ?_
      refine WL.nil ?_
      refine WC.condD rfl (fun g49 => ?_) (fun g49 => ?_)
      · refine WC.region ?_
        refine WL.y (Yl.move rfl) rfl ?_
        refine WL.y (Yl.nilCheck rfl) rfl ?_
        refine WL.y (Yl.field fo70_2 rfl) rfl ?_
        refine WL.sto (Sto.oneP (T := 70) (cs := (⟨c.ks.set i Ky.zero, c.has.set i false, c.st⟩ : Ct).cells) sz5 rfl rfl (by repeat constructor) rfl (by rw [Ct.len hokM]; omega) (Ct.setSt hokM 3)) (fun _ h => nomatch h) ?_
        refine WL.nil ?_
        have e : forgetT c i = ⟨c.ks.set i Ky.zero, c.has.set i false, 3⟩ := by unfold forgetT; rw [if_pos g49]
        rw [e]
        exact ⟨rfl, (), trivial, (by repeat' constructor), _, (by repeat' constructor)⟩
      · refine WC.skip ?_
        have e : forgetT c i = ⟨c.ks.set i Ky.zero, c.has.set i false, c.st⟩ := by unfold forgetT; rw [if_neg g49]
        rw [e]
        exact ⟨rfl, (), trivial, (by repeat' constructor), _, (by repeat' constructor)⟩
    · rintro ⟨⟩ -
      refine WC.seq ?_
      refine WC.seq ?_
      refine WC.region ?_
      refine WL.y (Yl.move rfl) rfl ?_
      refine WL.callC (xs := [.tmp 53]) (cap := []) rfl rfl en27 (by repeat' constructor) (fun w hw => all_any nb (forgetT c i) hokF w hw.left.here) rfl ?_
      rintro ⟨a54, c54⟩ -
      dsimp only [List.cons_append, List.nil_append]
      refine WL.y (Yl.len un22 rfl) rfl ?_
      refine WL.y (Yl.eql rfl rfl) rfl ?_
      refine WL.nil ?_
      refine WC.condD rfl (fun g56 => ?_) (fun g56 => ?_)
      · refine WC.drawTail 6 mixed (by kernel_rfl) ?_
        refine WH.y (Yl.move rfl) rfl ?_
        refine WH.y (Yl.nilCheck rfl) rfl ?_
        refine WH.y (Yl.field fo67_2 rfl) rfl ?_
        refine WH.y (Yl.load on65 rfl (by repeat constructor) (by rfl)) rfl ?_
        refine WH.y (Yl.field fo40_0 rfl) rfl ?_
        refine WH.y (Yl.load on5 rfl (by repeat constructor) (by rfl)) rfl ?_
        refine WH.nil ?_
        refine WP.eff (Eff.mapDel (q := a) (m := pm es) (kv := Value.int .u8) (vv := ptV) keyU8 un65 hE.pmk rfl rfl (u8_wf ha) (by repeat constructor)) ?_
        refine WP.nil ?_
        refine WC.seq ?_
        refine WC.region ?_
        refine WL.y (Yl.assign rfl) rfl ?_
        refine WL.nil ?_
        refine WC.ret ?_
        repeat (with_reducible (first | refine peelT ?_ | refine peelB ?_ | refine peelTX ?_ | refine peelBX ?_ | refine peelBN ?_ | refine peelBO rfl ?_))
        have h0 : (forgetT c i).kys.length = 0 := by omega
        have hx := hE.erase hj
        refine ret1 (.inr rfl) Tryz.results8 rfl fun w' h => ⟨es.eraseIdx j, ⟨by rw [if_pos rfl, if_pos h0]; exact hx.2.1, hx.1⟩, by rw [if_pos rfl], ?_⟩
        rw [← hx.2.2] at h
        exact h.sub (by repeat' constructor)
      · refine WC.skip ?_
        refine WC.seq ?_
        refine WC.region ?_
        refine WL.y (Yl.assign rfl) rfl ?_
        refine WL.nil ?_
        refine WC.ret ?_
        repeat (with_reducible (first | refine peelT ?_ | refine peelB ?_ | refine peelTX ?_ | refine peelBX ?_ | refine peelBN ?_ | refine peelBO rfl ?_))
        have h0 : ¬ (forgetT c i).kys.length = 0 := by omega
        have hs := hE.set hj (c' := forgetT c i) hokF
        refine ret1 (.inr rfl) Tryz.results8 rfl fun w' h => ⟨es.set j (a, nb, forgetT c i), ⟨by rw [if_pos rfl, if_neg h0]; exact hs.2, hs.1⟩, by rw [if_pos rfl], ?_⟩
        rw [← pm_same (c' := forgetT c i) hj] at h
        exact (OK.allIn (f := ctR) (l := es) (i := j) (x := (a, nb, forgetT c i)) h (by repeat' constructor) hjl).sub (by repeat' constructor)
theorem forget_any (b : Nat) (ao : Option Addr) (cp mb : Nat) (acc : Int) (own : List Ky) (es : Es) (hE : EG es) (a : Int) (ha : 0 ≤ a ∧ a < 256) (i : Nat) (hi : i < 4) (hm : mayF acc a (i : Int) = 0) (w : World) (hw : OK w (fpL (bkL b ao cp mb acc own es)) (bkL b ao cp mb acc own es) w) :
    Fn Tryz.prog 8 [.pointer (some ⟨b, 0, none⟩), .agg #[.int .u8 a, .int .u8 (i : Int)]] (bkL b ao cp mb acc own es) w (fun es' : Es => pj es' = forgetC (pj es) a i ∧ EG es') (fun _ => .int .i64 (fgE (pj es) a i)) (fun es' => bkL b ao cp mb acc own es') := by
  rcases es_cases es a with ⟨h1, h2⟩ | ⟨j, nb, c, hj, h1, h2⟩
  · have e1 : forgetC (pj es) a i = pj es := by unfold forgetC; rw [h2]
    have e2 : fgE (pj es) a i = 4 := by unfold fgE hasAtC; rw [h2]; rfl
    rw [e1, e2]
    exact Calls.mono (forget_no b ao cp mb acc own es hE a ha i hi hm h1 w hw) (by
      rintro e w' ⟨x, _, h2, h3⟩
      exact ⟨es, ⟨rfl, hE⟩, h2, h3⟩)
  · exact forget_old b ao cp mb acc own es hE a ha i hi hm j nb c hj h1 h2 w hw
end Go.Proofs.YtcplbkbimpiioaaGreatDoor

namespace Go.Proofs.YtcplbkbimpiioaaGreatDoor
open Go Go.RowKit
/-- A contact as it stands in a book. -/
def CtI (c : Ct) : Prop := c.ok ∧ (c.st = 1 ∨ c.st = 2 ∨ c.st = 3) ∧ c.kys.length ≠ 0
def Inv (l : Cs) : Prop := ∀ a c, mget l a = some c → CtI c
/-- What a call of a kind may have changed of an account. -/
structure GoodC (k : Int) (l l' : Cs) (a : Int) (q : Bool) : Prop where
  inv : Inv l'
  unk : stOf l' a = 0 ↔ (kysAt l' a).length = 0
  vr : 2 ≤ k → k ≤ 3 → (q = true ↔ stOf l' a = 2)
  stay : stOf l a = 2 → kysAt l a = kysAt l' a → k ≠ 1 → stOf l' a = 2
  go : stOf l a = 2 → kysAt l a ≠ kysAt l' a → stOf l' a ≠ 2
  new : stOf l' a = 2 → stOf l a ≠ 2 → q = true
theorem Inv.nil : Inv [] := fun a c h => by cases h
theorem Inv.unk {l : Cs} (h : Inv l) (a : Int) : stOf l a = 0 ↔ (kysAt l a).length = 0 := by
  unfold stOf kysAt
  cases hc : mget l a with
  | none => simp
  | some c =>
    obtain ⟨_, h2, h3⟩ := h a c hc
    simp only [Option.map_some, Option.getD_some]
    constructor
    · intro h; omega
    · intro h; exact absurd h h3
theorem Inv.put {l : Cs} (h : Inv l) (hd : mnd l) {a : Int} {c : Ct} (hc : CtI c) : Inv (mput l a c) := by
  intro b d hb
  rw [mget_put hd] at hb
  split at hb
  · cases hb; exact hc
  · exact h b d hb
theorem Inv.del {l : Cs} (h : Inv l) (hd : mnd l) (a : Int) : Inv (mdel l a) := by
  intro b d hb
  rw [mget_del hd] at hb
  split at hb
  · cases hb
  · exact h b d hb
theorem GoodC.same {k : Int} {l : Cs} (h : Inv l) (a : Int) (hk : k < 2 ∨ 3 < k ∨ stOf l a ≠ 2) : GoodC k l l a false :=
  ⟨h, h.unk a, fun h1 h2 => ⟨fun h => (by cases h), fun h => by
    rcases hk with hk | hk | hk
    · omega
    · omega
    · exact absurd h hk⟩, fun h _ _ => h, fun _ h => absurd rfl h, fun h1 h2 => absurd h1 h2⟩
theorem stOf_put {l : Cs} (hd : mnd l) (a : Int) (c : Ct) : stOf (mput l a c) a = c.st := by unfold stOf; rw [mget_put hd, if_pos rfl]; rfl
theorem kysAt_put {l : Cs} (hd : mnd l) (a : Int) (c : Ct) : kysAt (mput l a c) a = c.kys := by unfold kysAt; rw [mget_put hd, if_pos rfl]; rfl
theorem kys_len_set : ∀ (ks : List Ky) (bs : List Bool) (i : Nat) (k : Ky), i < ks.length → i < bs.length → (kysOf (ks.set i k) (bs.set i true)).length ≠ 0
  | k0 :: ks, b :: bs, 0, k, _, _ => by simp [kysOf]
  | k0 :: ks, b :: bs, i + 1, k, h1, h2 => by
    have ih := kys_len_set ks bs i k (by simpa using h1) (by simpa using h2)
    rw [List.set_cons_succ, List.set_cons_succ]
    unfold kysOf
    split
    · simp
    · exact ih
theorem kys_same : ∀ (ks : List Ky) (bs : List Bool) (i : Nat) (k : Ky), i < ks.length → i < bs.length → kysOf ks bs = kysOf (ks.set i k) (bs.set i true) → bs[i]? = some true ∧ ks[i]? = some k
  | k0 :: ks, b :: bs, 0, k, _, _, h => by
    rw [List.set_cons_zero, List.set_cons_zero] at h
    unfold kysOf at h
    rw [if_pos rfl] at h
    cases b with
    | true => rw [if_pos rfl] at h; cases h; exact ⟨rfl, rfl⟩
    | false =>
      rw [if_neg (by decide)] at h
      have := congrArg List.length h
      simp at this
  | k0 :: ks, b :: bs, i + 1, k, h1, h2, h => by
    rw [List.set_cons_succ, List.set_cons_succ] at h
    unfold kysOf at h
    have ih := kys_same ks bs i k (by simpa using h1) (by simpa using h2)
    rw [List.getElem?_cons_succ, List.getElem?_cons_succ]
    cases b with
    | true => rw [if_pos rfl, if_pos rfl] at h; exact ih (List.cons.inj h).2
    | false => rw [if_neg (by decide), if_neg (by decide)] at h; exact ih h
theorem kys_set_same (ks : List Ky) (bs : List Bool) (i : Nat) (k : Ky) (h1 : bs[i]? = some true) (h2 : ks[i]? = some k) : kysOf (ks.set i k) (bs.set i true) = kysOf ks bs := by
  obtain ⟨l1, e1⟩ := List.getElem?_eq_some_iff.1 h1
  obtain ⟨l2, e2⟩ := List.getElem?_eq_some_iff.1 h2
  have a1 : bs.set i true = bs := by
    have := List.set_getElem_self l1
    rwa [e1] at this
  have a2 : ks.set i k = ks := by
    have := List.set_getElem_self l2
    rwa [e2] at this
  rw [a1, a2]
theorem learn_good {l : Cs} (h : Inv l) (hd : mnd l) (a : Int) {i : Nat} (hi : i < 4) (k : Ky) : GoodC 0 l (learnC l a i k) a false := by
  have hc : (ctOf l a).ok ∧ ((ctOf l a).st = 1 ∨ (ctOf l a).st = 2 ∨ (ctOf l a).st = 3) := by
    unfold ctOf
    cases hc : mget l a with
    | none => exact ⟨newCt_ok, .inl rfl⟩
    | some c => exact ⟨(h a c hc).1, (h a c hc).2.1⟩
  have h1 : (ctOf l a).has.length = 4 := hc.1.hl
  have h2 : (ctOf l a).ks.length = 4 := hc.1.kl
  have hI : CtI (learnT (ctOf l a) i k) := by
    refine ⟨learnT_ok hc.1 i k, ?_, ?_⟩
    · unfold learnT
      dsimp only
      split
      · exact .inr (.inr rfl)
      · exact hc.2
    · unfold learnT Ct.kys
      exact kys_len_set _ _ i k (by omega) (by omega)
  have hget : stOf l a = 2 → ∃ c, mget l a = some c ∧ ctOf l a = c ∧ c.st = 2 := by
    unfold stOf ctOf
    cases hc : mget l a with
    | none => intro h; cases h
    | some c => exact fun h => ⟨c, rfl, rfl, h⟩
  unfold learnC
  refine ⟨h.put hd hI, (h.put hd hI).unk a, fun h => by omega, ?_, ?_, ?_⟩
  · intro s2 hk _
    obtain ⟨c, g1, g2, g3⟩ := hget s2
    rw [kysAt_put hd, g2] at hk
    rw [stOf_put hd, g2]
    rw [g2] at h1 h2
    unfold kysAt at hk
    rw [g1] at hk
    obtain ⟨k1, k2⟩ := kys_same c.ks c.has i k (by omega) (by omega) hk
    unfold learnT
    dsimp only
    rw [if_neg, g3]
    rintro ⟨_, hs⟩
    rw [List.getD_eq_getElem?_getD, List.getD_eq_getElem?_getD, k1, k2] at hs
    simp at hs
  · intro s2 hk
    obtain ⟨c, g1, g2, g3⟩ := hget s2
    rw [kysAt_put hd, g2] at hk
    rw [stOf_put hd, g2]
    rw [g2] at h1 h2
    unfold kysAt at hk
    rw [g1] at hk
    intro hs
    unfold learnT at hs
    dsimp only at hs
    split at hs
    · cases hs
    · rename_i hn
      refine hk ?_
      have hb : c.has[i]? = some c.has[i] := List.getElem?_eq_getElem (by omega)
      have hkk : c.ks[i]? = some c.ks[i] := List.getElem?_eq_getElem (by omega)
      rw [List.getD_eq_getElem?_getD, List.getD_eq_getElem?_getD, hb, hkk] at hn
      have h5 : c.has[i] = true ∧ c.ks[i] = k := by
        refine Classical.byContradiction fun hx => hn ⟨g3, ?_⟩
        simp only [Option.getD_some]
        cases hy : c.has[i] with
        | false => rfl
        | true =>
          have : ¬ c.ks[i] = k := fun e => hx ⟨hy, e⟩
          simp [this]
      exact (kys_set_same c.ks c.has i k (by rw [hb, h5.1]) (by rw [hkk, h5.2])).symm
  · intro s2 s1
    rw [stOf_put hd] at s2
    unfold learnT at s2
    dsimp only at s2
    split at s2
    · cases s2
    · exfalso
      refine s1 ?_
      unfold stOf
      unfold ctOf at s2
      cases hc : mget l a with
      | none => rw [hc] at s2; cases s2
      | some c => rw [hc] at s2; exact s2
end Go.Proofs.YtcplbkbimpiioaaGreatDoor
