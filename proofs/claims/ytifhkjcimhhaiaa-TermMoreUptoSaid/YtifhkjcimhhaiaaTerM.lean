/- Maps whose keys are terms; Can: the walk. -/
import Derived.Test.YtifhkjcimhhaiaaTerK
import Derived.Test.YtifhkjcimhhaiaaLibK
import Derived.Test.YtifhkjcimhhaiaaLibLd
import Derived.Test.YtifhkjcimhhaiaaTerF
namespace Go.Proofs.Ytifhkjcimhhaiaa
open Go Go.RowKit
noncomputable instance : DecidableEq Tm := fun _ _ => Classical.propDecidable _
def GTm (o : Option Tm) : Prop := OkO o ∧ (encO o).length ≤ 1000000
theorem lits_str {P : Program} {t u : TypeId} {fs : Array Field} {f : Field} (hu : P.underlying t = some (.struct fs)) (hfs : fs = #[f]) (hf : f.type = u) (ho : f.offset = 0) (hn : (f.name != "_") = true) (hs : P.underlying u = some .string) (hc : P.cellsOf t = 1) (hc2 : P.cellsOf u = 1) {s : ByteArray} (h : s.size ≤ maxLen) (d : Nat) : P.keyLits (d + 1 + 1) t [.string s] = some [.string s.data.toList] := by
  subst hfs
  have : P.keyLits (d + 1) f.type (([Value.string s].drop f.offset).take (P.cellsOf f.type)) = some [.string s.data.toList] := by
    rw [hf, ho, hc2]
    unfold Program.keyLits
    rw [hs]
    simp [h]
  generalize d + 1 = e at this
  unfold Program.keyLits
  rw [hu]
  simp only []
  rw [if_pos ⟨by rw [hc]; rfl, by simpa using hn⟩]
  simp [this]
theorem cells_inj {a b : Option Tm} (ha : OkO a) (hb : OkO b) (h : tmV a = tmV b) : a = b := by
  unfold tmV tmC at h
  injection h with h
  have h : (strOfNums (encO a)) = strOfNums (encO b) := by simpa using h
  refine (encO_inj ha hb).1 (bytesOf_inj (encO_bytes ha) (encO_bytes hb) ?_)
  rw [← Go.Lib.strOfNums_toList, ← Go.Lib.strOfNums_toList, h]
theorem lay_ok : laidOutB Try.prog = true := by kernel_rfl
theorem keyTm : KeyT Try.prog 34 GTm tmV := by
  refine ⟨Go.Maps.Keyed.of_law (deep_law_laid lay_ok (m := 5) (by decide) (Nat.le_of_ble_eq_true (by kernel_rfl)) (by kernel_rfl) (by kernel_rfl)), fun o ho => ?_, fun a b ha hb h => cells_inj ha.1 hb.1 h⟩
  have hs1 : Nat.ble 1 Try.prog.types.size = true := by kernel_rfl
  have hs2 := Nat.le_of_ble_eq_true hs1
  have hsz : ∃ d, Try.prog.types.size + 1 = d + 1 + 1 := ⟨Try.prog.types.size - 1, by omega⟩
  obtain ⟨d, hd⟩ := hsz
  have hkt : Try.prog.keyType 34 = true := by kernel_rfl
  have hfm : (tmV o).formed Try.prog 34 = true := by
    unfold tmV tmC Value.formed
    rw [Try.underlying34]
    have : Try.prog.cellsOf 34 = 1 := by kernel_rfl
    simp [this]
  have hl := lits_str Try.underlying34 rfl rfl rfl rfl Try.underlying9 (by kernel_rfl) (by kernel_rfl) (s := strOfNums (encO o)) (by have := ho.2; rw [strOfNums_size]; unfold maxLen; omega) d
  unfold keyOf
  rw [Try.underlying34]
  simp only [hkt, hfm, Bool.and_self, if_true, hd]
  rw [show (tmV o).cells.toList = [.string (strOfNums (encO o))] by simp [tmV, tmC, Value.cells], hl]
  exact ⟨_, rfl⟩
def unV : Unit → Value := fun _ => .agg #[]
abbrev MpT := List (Option Tm × Unit)
def inM (m : MpT) (t : Tm) : Prop := (mget m (some t)).isSome = true
def MpG (m : MpT) : Prop := ∀ p ∈ m, GTm p.1
noncomputable def canB (m : MpT) (o : Option Tm) : Bool := match o with
  | none => false
  | some t => @decide (t.canP (inM m)) (Classical.propDecidable _)
theorem Fn.free {P : Program} {f : FuncId} {vs : List Value} {A : List Res} {w : World} {α : Type} {Φ : α → Prop} {v : α → Value} (hro : ∀ r ∈ A, ∀ k, ¬ r.wr k) (hok : ∀ r ∈ A, r.ok w) (h : OK w (fpL A) A w → Fn P f vs A w Φ v (fun _ => [])) : Fn P f vs [] w Φ v (fun _ => []) := by
  have h0 : OK w (fpL A) A w := by
    refine ⟨Chg.refl _ _, hok, fun r hr k hk _ => ⟨r, hr, hk⟩, fun r hr k hk _ => ⟨r, hr, hk⟩, ?_⟩
    rw [List.pairwise_iff_getElem]
    intro i j hi hj _
    exact ⟨fun k hk _ => hro _ (List.getElem_mem hi) k hk, fun k _ hk => hro _ (List.getElem_mem hj) k hk⟩
  refine Calls.mono (h h0) ?_
  rintro e w' ⟨x, h1, h2, h3⟩
  exact ⟨x, h1, h2, h3.chg.mono (fun k _ ⟨r, hr, hk⟩ => (hro r hr k hk).elim), (fun _ h => nomatch h), (fun _ h => nomatch h), (fun _ h => nomatch h), List.Pairwise.nil⟩
theorem canB_none (m : MpT) : canB m none = false := rfl
theorem canB_iff {m : MpT} {t : Tm} : canB m (some t) = true ↔ t.canP (inM m) := by unfold canB; exact @decide_eq_true_iff _ (Classical.propDecidable _)
theorem canB_in {m : MpT} {t : Tm} (h : (mget m (some t)).isSome = true) : canB m (some t) = true := canB_iff.2 (can_in h)
theorem canB_atom {m : MpT} {n : Int} {l : List Tm} (h : ¬ (mget m (some (.mk 1 n l))).isSome = true) : canB m (some (.mk 1 n l)) = false := by
  rw [Bool.eq_false_iff]
  intro hc
  rw [canB_iff, can_mk] at hc
  rcases hc with hc | hc
  · exact h hc
  · unfold combP at hc
    rw [if_pos rfl] at hc
    exact hc
theorem canB_six {m : MpT} {n : Int} {a b : Tm} (h : ¬ (mget m (some (.mk 6 n [a, b]))).isSome = true) : canB m (some (.mk 6 n [a, b])) = ((canB m (some a) && canB m (some (pubT b))) || (canB m (some b) && canB m (some (pubT a)))) := by
  rw [Bool.eq_iff_iff, Bool.or_eq_true, Bool.and_eq_true, Bool.and_eq_true, canB_iff, canB_iff, canB_iff, canB_iff, canB_iff, can_two, can_pub, can_pub]
  exact ⟨fun hc => hc.resolve_left h, .inr⟩
theorem canB_all {m : MpT} {k n : Int} {l : List Tm} (h1 : k ≠ 1) (h6 : k ≠ 6) (h : ¬ (mget m (some (.mk k n l))).isSome = true) : canB m (some (.mk k n l)) = l.all (fun t => canB m (some t)) := by
  rw [Bool.eq_iff_iff, canB_iff, can_all _ h1 h6, List.all_eq_true]
  exact ⟨fun hc t ht => canB_iff.2 (hc.resolve_left h t ht), fun hc => .inr fun t ht => canB_iff.1 (hc t ht)⟩
theorem gtm_of {t : Tm} (h : t.ok) (hl : t.enc.length ≤ 1000000) : GTm (some t) := ⟨fun s hs => by cases hs; exact h, hl⟩
end Go.Proofs.Ytifhkjcimhhaiaa

namespace Go.Proofs.Ytifhkjcimhhaiaa
open Go Go.RowKit
theorem OK.getRo {w0 : World} {S : Pm} {H F : List Res} {w : World} {r : Res} (h : OK w0 S H w) (t : Take1 H (roR r) F) : r.ok w := (h.all (roR r) t.mem : (roR r).ok w)
theorem canNil_any (o : Option Tm) (w : World) (hw : OK w (fpL []) [] w) :
    Fn Try.prog 18 [.pointer none, tmV o] [] w (fun _ : Unit => True) (fun _ => .bool false) (fun _ => []) := by
  unfold tmV
  refine enterF Try.func18 rfl Try.ntmps18 rfl hw ?_
  refine WC.seq ?_
  refine WC.region ?_
  refine WL.to (To.box (cs := [.pointer none]) rfl rfl) rfl ?_
  intro b2
  refine WL.to (To.box (cs := tmC o) rfl rfl) rfl ?_
  intro b3
  refine WL.to (To.alloc (cs := [.bool false]) zr4 rfl) rfl ?_
  intro b4
  refine WL.nil ?_
  refine WC.seq ?_
  refine WC.seq ?_
  refine WC.region ?_
  refine WL.y (Yl.load on45 rfl (by repeat (first | exact Take1.head | apply Take1.tail)) (by rfl)) rfl ?_
  refine WL.y (Yl.nilEq un45 rfl rfl) rfl ?_
  refine WL.y (Yl.move rfl) rfl ?_
  refine WL.know (t := 12) (b' := true) rfl (by first | rfl | (simp; done) | (simp; omega)) ?_
  refine WL.off rfl rfl rfl rfl ?_
  refine WL.off rfl rfl rfl rfl ?_
  refine WL.off rfl rfl rfl rfl ?_
  refine WL.y (Yl.pickT rfl rfl) rfl ?_
  refine WL.nil ?_
  refine WC.condT rfl rfl ?_
  refine WC.seq ?_
  refine WC.region ?_
  refine WL.sto (Sto.one sz4 rfl rfl (by repeat (first | exact Take1.head | apply Take1.tail)) rfl (by rfl) (by rfl)) (fun _ h => nomatch h) ?_
  refine WL.nil ?_
  refine WC.ret ?_
  repeat (first | (with_reducible refine peelT ?_) | (with_reducible refine peelB ?_) | (with_reducible refine peelTX ?_) | (with_reducible refine peelBX ?_) | (with_reducible refine peelBN ?_) | (with_reducible refine peelBO rfl ?_))
  exact retV1 (.inr rfl) Try.results18 on4 rfl (by repeat (first | exact Take1.head | apply Take1.tail)) fun w' h => ⟨(), trivial, rfl, h.sub (by repeat (first | exact TakeL.nil | (apply TakeL.cons; · repeat (first | exact Take1.head | apply Take1.tail))))⟩
def knL (kb mb : Nat) (m : MpT) : List Res := [roR (blkR kb 78 [.map (some mb)]), roR (mapR tmV unV mb m)]
theorem knL_ro {kb mb : Nat} {m : MpT} : ∀ r ∈ knL kb mb m, ∀ k, ¬ r.wr k := by
  intro r hr k hk
  unfold knL at hr
  simp at hr
  rcases hr with rfl | rfl <;> exact hk
theorem knL_ok {kb mb : Nat} {m : MpT} {w : World} (h1 : (blkR kb 78 [.map (some mb)]).ok w) (h2 : (mapR tmV unV mb m).ok w) : ∀ r ∈ knL kb mb m, r.ok w := by
  intro r hr
  unfold knL at hr
  simp at hr
  rcases hr with rfl | rfl
  · exact h1
  · exact h2
def CanC (n : Nat) (kb mb : Nat) (m : MpT) : Prop := ∀ (o : Option Tm), OkO o → (encO o).length ≤ n → ∀ w, (blkR kb 78 [.map (some mb)]).ok w → (mapR tmV unV mb m).ok w →
  Fn Try.prog 18 [.pointer (some ⟨kb, 0, none⟩), tmV o] [] w (fun _ : Unit => True) (fun _ => .bool (canB m o)) (fun _ => [])
theorem canNo_any (kb mb : Nat) (m : MpT) (w : World) (hw : OK w (fpL (knL kb mb m)) (knL kb mb m) w) :
    Fn Try.prog 18 [.pointer (some ⟨kb, 0, none⟩), tmV none] (knL kb mb m) w (fun _ : Unit => True) (fun _ => .bool (canB m none)) (fun _ => []) := by
  unfold tmV
  refine enterF Try.func18 rfl Try.ntmps18 rfl hw ?_
  refine WC.seq ?_
  refine WC.region ?_
  refine WL.to (To.box (cs := [.pointer (some ⟨kb, 0, none⟩)]) rfl rfl) rfl ?_
  intro b2
  refine WL.to (To.box (cs := tmC none) rfl rfl) rfl ?_
  intro b3
  refine WL.to (To.alloc (cs := [.bool false]) zr4 rfl) rfl ?_
  intro b4
  refine WL.nil ?_
  refine WC.seq ?_
  refine WC.seq ?_
  refine WC.region ?_
  refine WL.y (Yl.load on45 rfl (by repeat (first | exact Take1.head | apply Take1.tail)) (by rfl)) rfl ?_
  refine WL.y (Yl.nilEq un45 rfl rfl) rfl ?_
  refine WL.y (Yl.move rfl) rfl ?_
  refine WL.know (t := 12) (b' := false) rfl (by first | rfl | (simp; done) | (simp; omega)) ?_
  refine WL.on rfl rfl ?_
  refine WL.y (Yl.field fo34_0 rfl) rfl ?_
  refine WL.on rfl rfl ?_
  refine WL.y (Yl.load on9 rfl (by repeat (first | exact Take1.head | apply Take1.tail)) (by rfl)) rfl ?_
  refine WL.on rfl rfl ?_
  refine WL.y (Yl.sEqT bytes_nil bytes_nil rfl rfl) rfl ?_
  refine WL.y (Yl.pickF rfl rfl) rfl ?_
  refine WL.nil ?_
  refine WC.condT rfl (by decide) ?_
  refine WC.seq ?_
  refine WC.region ?_
  refine WL.sto (Sto.one sz4 rfl rfl (by repeat (first | exact Take1.head | apply Take1.tail)) rfl (by rfl) (by rfl)) (fun _ h => nomatch h) ?_
  refine WL.nil ?_
  refine WC.ret ?_
  repeat (first | (with_reducible refine peelT ?_) | (with_reducible refine peelB ?_) | (with_reducible refine peelTX ?_) | (with_reducible refine peelBX ?_) | (with_reducible refine peelBN ?_) | (with_reducible refine peelBO rfl ?_))
  exact retV1 (.inr rfl) Try.results18 on4 rfl (by repeat (first | exact Take1.head | apply Take1.tail)) fun w' h => ⟨(), trivial, rfl, h.sub (by repeat (first | exact TakeL.nil | (apply TakeL.cons; · repeat (first | exact Take1.head | apply Take1.tail))))⟩
set_option maxRecDepth 100000 in
set_option maxHeartbeats 1600000 in
theorem can_step (kb mb : Nat) (m : MpT) (hm : MpG m) (n : Nat) (hn : n + 1 ≤ 900000) (IH : CanC n kb mb m) (o : Option Tm) (ho : OkO o) (hlen : (encO o).length ≤ n + 1) (w : World) (hw : OK w (fpL [roR (blkR kb 78 [.map (some mb)]), roR (mapR tmV unV mb m)]) [roR (blkR kb 78 [.map (some mb)]), roR (mapR tmV unV mb m)] w) :
    Fn Try.prog 18 [.pointer (some ⟨kb, 0, none⟩), tmV o] [roR (blkR kb 78 [.map (some mb)]), roR (mapR tmV unV mb m)] w (fun _ : Unit => True) (fun _ => .bool (canB m o)) (fun _ => []) := by
  unfold tmV
  refine enterM Try.func18 rfl Try.ntmps18 rfl hw ?_
  refine WC.seq ?_
  refine WC.region ?_
  refine WL.to (To.box (cs := [.pointer (some ⟨kb, 0, none⟩)]) rfl rfl) rfl ?_
  intro b2
  refine WL.to (To.box (cs := tmC o) rfl rfl) rfl ?_
  intro b3
  refine WL.to (To.alloc (cs := [.bool false]) zr4 rfl) rfl ?_
  intro b4
  refine WL.nil ?_
  refine WC.seq ?_
  refine WC.seq ?_
  refine WC.region ?_
  refine WL.y (Yl.load on45 rfl (by repeat (first | exact Take1.head | apply Take1.tail)) (by rfl)) rfl ?_
  refine WL.y (Yl.nilEq un45 rfl rfl) rfl ?_
  refine WL.y (Yl.move rfl) rfl ?_
  refine WL.know (t := 12) (b' := false) rfl (by first | rfl | (simp; done) | (simp; omega)) ?_
  refine WL.on rfl rfl ?_
  refine WL.y (Yl.field fo34_0 rfl) rfl ?_
  refine WL.on rfl rfl ?_
  refine WL.y (Yl.load on9 rfl (by repeat (first | exact Take1.head | apply Take1.tail)) (by rfl)) rfl ?_
  refine WL.on rfl rfl ?_
  refine WL.y (Yl.sEqT (encO_bytes ho) bytes_nil rfl rfl) rfl ?_
  refine WL.y (Yl.pickF rfl rfl) rfl ?_
  refine WL.nil ?_
  refine WC.condD rfl (fun g16 => ?_) (fun g16 => ?_)
  · refine WC.seq ?_
    refine WC.region ?_
    refine WL.sto (Sto.one sz4 rfl rfl (by repeat (first | exact Take1.head | apply Take1.tail)) rfl (by rfl) (by rfl)) (fun _ h => nomatch h) ?_
    refine WL.nil ?_
    refine WC.ret ?_
    repeat (first | (with_reducible refine peelT ?_) | (with_reducible refine peelB ?_) | (with_reducible refine peelTX ?_) | (with_reducible refine peelBX ?_) | (with_reducible refine peelBN ?_) | (with_reducible refine peelBO rfl ?_))
    have e := encO_nil.1 g16
    subst e
    refine retM.of .nil ?_
    exact retV1 (.inr rfl) Try.results18 on4 rfl (by repeat (first | exact Take1.head | apply Take1.tail)) fun w' h => ⟨(), trivial, rfl, h.sub (by repeat (first | exact TakeL.nil | (apply TakeL.cons; · repeat (first | exact Take1.head | apply Take1.tail))))⟩
  · refine WC.skip ?_
    refine WC.seq ?_
    refine WC.seq ?_
    obtain ⟨t, rfl⟩ : ∃ t, o = some t := by
      cases o with
      | none => exact absurd rfl g16
      | some t => exact ⟨t, rfl⟩
    obtain ⟨k, nn, ps⟩ := t
    have hlen : (Tm.mk k nn ps).enc.length ≤ n + 1 := hlen
    have htk := ho _ rfl
    have hg : GTm (some (.mk k nn ps)) := gtm_of htk (by omega)
    have hok := (ok_mk k nn ps).1 htk
    have hel : (Tm.mk k nn ps).enc.length = (hdB k nn ps.length).length + (encs ps).length := by rw [enc_mk, List.length_append]
    have hd1 : 1 ≤ (hdB k nn ps.length).length := by have := hd_shape hok.1; omega
    have hpl : ∀ (i : Nat) x, ps[i]? = some x → x.enc.length ≤ n := by
      intro i x hx
      have := encs_at hx
      rw [this, List.length_append, List.length_append] at hel
      omega
    refine WC.drawAny (Hs := [blkR b2 45 [.pointer (some ⟨kb, 0, none⟩)], blkR b3 34 (tmC (some (.mk k nn ps))), roR (blkR kb 78 [.map (some mb)]), roR (mapR tmV unV mb m)]) mixed (by kernel_rfl) ⟨_, (by repeat (first | exact TakeL.nil | (apply TakeL.cons; · repeat (first | exact Take1.head | apply Take1.tail))))⟩ ?_
    refine WD.take 0 rfl (by kernel_rfl) (by kernel_rfl) (by kernel_rfl) rfl rfl (Yl.load on45 rfl (by repeat (first | exact Take1.head | apply Take1.tail)) (by rfl)) rfl ?_
    refine WD.take 1 rfl (by kernel_rfl) (by kernel_rfl) (by kernel_rfl) rfl rfl (Yl.nilCheck rfl) rfl ?_
    refine WD.take 2 rfl (by kernel_rfl) (by kernel_rfl) (by kernel_rfl) rfl rfl (Yl.field fo78_0 rfl) rfl ?_
    refine WD.take 3 rfl (by kernel_rfl) (by kernel_rfl) (by kernel_rfl) rfl rfl (Yl.loadRo on59 rfl (by repeat (first | exact Take1.head | apply Take1.tail)) (by rfl)) rfl ?_
    refine WD.take 4 rfl (by kernel_rfl) (by kernel_rfl) (by kernel_rfl) rfl rfl (Yl.loadN ag34 rfl (by repeat (first | exact Take1.head | apply Take1.tail)) (by rfl) (show _ = tmC (some (.mk k nn ps)) from rfl)) rfl ?_
    refine WD.take 5 rfl (by kernel_rfl) (by kernel_rfl) (by kernel_rfl) rfl rfl (Yl.lookupOk (kv := tmV) keyTm un59 (fun _ => by kernel_rfl) (z := .agg #[]) hm rfl rfl hg (MReads.of (m := m) MapOf.ro (by repeat (first | exact Take1.head | apply Take1.tail)))) rfl ?_
    refine WD.take 6 rfl (by kernel_rfl) (by kernel_rfl) (by kernel_rfl) rfl rfl (Yl.move rfl) rfl ?_
    refine WD.take 7 rfl (by kernel_rfl) (by kernel_rfl) (by kernel_rfl) rfl rfl (Yl.extract rfl rfl) rfl ?_
    refine WD.say (t := 24) (v' := .agg #[]) rfl (by (cases mget m (some (.mk k nn ps)) <;> rfl)) ?_
    refine WD.take 8 rfl (by kernel_rfl) (by kernel_rfl) (by kernel_rfl) rfl rfl (Yl.extract rfl rfl) rfl ?_
    refine WD.one 9 (by kernel_rfl) ?_
    refine WO.to rfl rfl .no (To.alloc (cs := []) zr60 rfl) rfl (fun _ => ⟨_, (by repeat (first | exact TakeL.nil | (apply TakeL.cons; · repeat (first | exact Take1.head | apply Take1.tail))))⟩) ?_
    intro b5
    refine WD.one 10 (by kernel_rfl) ?_
    refine WO.sto rfl rfl .no (Sto.agg sz60 rfl rfl (by repeat (first | exact Take1.head | apply Take1.tail)) (fun _ h => nomatch h) rfl (by rfl) (show _ = [] from rfl)) ⟨_, (by repeat (first | exact TakeL.nil | (apply TakeL.cons; · repeat (first | exact Take1.head | apply Take1.tail))))⟩ ?_
    refine WD.take 11 rfl (by kernel_rfl) (by kernel_rfl) (by kernel_rfl) rfl rfl (Yl.assign rfl) rfl ?_
    refine WD.done (by kernel_rfl) ?_
    refine WC.seq ?_
    refine WC.region ?_
    refine WL.y (Yl.move rfl) rfl ?_
    refine WL.nil ?_
    refine WC.cond rfl (fun g26 => ?_) (fun g26 => ?_)
    · refine WC.seq ?_
      refine WC.region ?_
      refine WL.sto (Sto.one sz4 rfl rfl (by repeat (first | exact Take1.head | apply Take1.tail)) rfl (by rfl) (by rfl)) (fun _ h => nomatch h) ?_
      refine WL.nil ?_
      refine WC.ret ?_
      repeat (first | (with_reducible refine peelT ?_) | (with_reducible refine peelB ?_) | (with_reducible refine peelTX ?_) | (with_reducible refine peelBX ?_) | (with_reducible refine peelBN ?_) | (with_reducible refine peelBO rfl ?_))
      rw [canB_in (show (mget m (some (.mk k nn ps))).isSome = true from g26)]
      refine retM.of .nil ?_
      exact retV1 (.inr rfl) Try.results18 on4 rfl (by repeat (first | exact Take1.head | apply Take1.tail)) fun w' h => ⟨(), trivial, rfl, h.sub (by repeat (first | exact TakeL.nil | (apply TakeL.cons; · repeat (first | exact Take1.head | apply Take1.tail))))⟩
    · refine WC.skip ?_
      refine WC.seq ?_
      refine WC.seq ?_
      refine WC.region ?_
      refine WL.y (Yl.loadN ag34 rfl (by repeat (first | exact Take1.head | apply Take1.tail)) (by rfl) (show _ = tmC (some (.mk k nn ps)) from rfl)) rfl ?_
      refine WL.callC (xs := [.tmp 27]) (cap := []) rfl rfl en11 (by repeat (first | exact TakeL.nil | (apply TakeL.cons; · repeat (first | exact Take1.head | apply Take1.tail)))) (fun w hw => kind_any (some (.mk k nn ps)) ho w hw.left.here) rfl ?_
      rintro ⟨⟩ -
      rw [show kdO (some (.mk k nn ps)) = k from rfl]
      refine WL.nil ?_
      refine WC.block ?_
      refine WC.seq ?_
      refine WC.region ?_
      refine WL.y (Yl.eql rfl rfl) rfl ?_
      refine WL.y (Yl.assign rfl) rfl ?_
      refine WL.nil ?_
      refine WC.condD rfl (fun g29 => ?_) (fun g29 => ?_)
      · refine WC.seq ?_
        refine WC.region ?_
        refine WL.sto (Sto.one sz4 rfl rfl (by repeat (first | exact Take1.head | apply Take1.tail)) rfl (by rfl) (by rfl)) (fun _ h => nomatch h) ?_
        refine WL.nil ?_
        refine WC.ret ?_
        repeat (first | (with_reducible refine peelT ?_) | (with_reducible refine peelB ?_) | (with_reducible refine peelTX ?_) | (with_reducible refine peelBX ?_) | (with_reducible refine peelBN ?_) | (with_reducible refine peelBO rfl ?_))
        have hk : k = 1 := g29
        have hps : ps = [] := by
          have h := hok.1
          unfold shp at h
          rcases h with ⟨_, _, h⟩ | ⟨h, _⟩ | ⟨h, _⟩ | ⟨h, _⟩ | ⟨h, _⟩
          · exact h
          · omega
          · omega
          · omega
          · omega
        subst hk
        subst hps
        rw [canB_atom (by rw [g26]; decide)]
        refine retM.of .nil ?_
        exact retV1 (.inr rfl) Try.results18 on4 rfl (by repeat (first | exact Take1.head | apply Take1.tail)) fun w' h => ⟨(), trivial, rfl, h.sub (by repeat (first | exact TakeL.nil | (apply TakeL.cons; · repeat (first | exact Take1.head | apply Take1.tail))))⟩
      · refine WC.seq ?_
        refine WC.region ?_
        refine WL.y (Yl.eql rfl rfl) rfl ?_
        refine WL.y (Yl.assign rfl) rfl ?_
        refine WL.nil ?_
        refine WC.condD rfl (fun g31 => ?_) (fun g31 => ?_)
        · refine WC.seq ?_
          have hk : k = 6 := g31
          obtain ⟨a, b, hps⟩ : ∃ a b, ps = [a, b] := by
            have h := hok.1
            unfold shp at h
            rcases h with ⟨h, _⟩ | ⟨h, _⟩ | ⟨h, _⟩ | ⟨h, _⟩ | ⟨_, _, a, b, h, _⟩
            · omega
            · omega
            · omega
            · omega
            · exact ⟨a, b, h⟩
          subst hk
          subst hps
          have hla := hpl 0 a rfl
          have hlb := hpl 1 b rfl
          have hoa : OkO (some a) := fun s h => by cases h; exact oks_get hok.2 (i := 0) rfl
          have hob : OkO (some b) := fun s h => by cases h; exact oks_get hok.2 (i := 1) rfl
          have hpa : OkO (pubO (some a)) := fun s h => by cases h; exact pub_ok (hoa _ rfl)
          have hpb : OkO (pubO (some b)) := fun s h => by cases h; exact pub_ok (hob _ rfl)
          have hel2 : (encs [a, b]).length = a.enc.length + b.enc.length := by rw [encs_cons, encs_cons, encs_nil, List.length_append, List.append_nil]
          have hpa1 := enc_pos a
          have hpb1 := enc_pos b
          have hlq : ∀ t : Tm, (encO (pubO (some t))).length = 1 + t.enc.length := by
            intro t
            show (pubT t).enc.length = _
            unfold pubT
            rw [enc_mk, encs_cons, encs_nil, List.append_nil, List.length_append]
            rfl
          have hlpa : (encO (pubO (some a))).length ≤ n := by rw [hlq]; omega
          have hlpb : (encO (pubO (some b))).length ≤ n := by rw [hlq]; omega
          have hsix := canB_six (m := m) (n := nn) (a := a) (b := b) (by rw [g26]; decide)
          refine WC.region ?_
          refine WL.y (Yl.loadN ag34 rfl (by repeat (first | exact Take1.head | apply Take1.tail)) (by rfl) (show _ = tmC (some (.mk 6 nn [a, b])) from rfl)) rfl ?_
          refine WL.callC (xs := [.tmp 34]) (cap := []) rfl rfl en34 (by repeat (first | exact TakeL.nil | (apply TakeL.cons; · repeat (first | exact Take1.head | apply Take1.tail)))) (fun w hw => two_any (.mk 6 nn [a, b]) a b htk rfl (by omega) w hw.left.here) rfl ?_
          rintro ⟨⟩ -
          refine WL.y (Yl.move rfl) rfl ?_
          refine WL.y (Yl.extract rfl rfl) rfl ?_
          refine WL.y (Yl.extract rfl rfl) rfl ?_
          refine WL.to (To.alloc (cs := [.string (strOfNums [])]) zr34 rfl) rfl ?_
          intro b7
          refine WL.to (To.alloc (cs := [.string (strOfNums [])]) zr34 rfl) rfl ?_
          intro b8
          refine WL.sto (Sto.agg sz34 rfl rfl (by repeat (first | exact Take1.head | apply Take1.tail)) (tm_ones _) rfl (by rfl) (show _ = tmC (some a) from rfl)) (fun _ h => nomatch h) ?_
          refine WL.sto (Sto.agg sz34 rfl rfl (by repeat (first | exact Take1.head | apply Take1.tail)) (tm_ones _) rfl (by rfl) (show _ = tmC (some b) from rfl)) (fun _ h => nomatch h) ?_
          refine WL.nil ?_
          refine WC.seq ?_
          refine WC.drawAny (Hs := [blkR b2 45 [.pointer (some ⟨kb, 0, none⟩)], blkR b7 34 (tmC (some a)), blkR b8 34 (tmC (some b)), roR (blkR kb 78 [.map (some mb)]), roR (mapR tmV unV mb m)]) mixed (by kernel_rfl) ⟨_, (by repeat (first | exact TakeL.nil | (apply TakeL.cons; · repeat (first | exact Take1.head | apply Take1.tail))))⟩ ?_
          refine WD.take 0 rfl (by kernel_rfl) (by kernel_rfl) (by kernel_rfl) rfl rfl (Yl.load on45 rfl (by repeat (first | exact Take1.head | apply Take1.tail)) (by rfl)) rfl ?_
          refine WD.take 1 rfl (by kernel_rfl) (by kernel_rfl) (by kernel_rfl) rfl rfl (Yl.loadN ag34 rfl (by repeat (first | exact Take1.head | apply Take1.tail)) (by rfl) (show _ = tmC (some a) from rfl)) rfl ?_
          refine WD.one 2 (by kernel_rfl) ?_
          refine WO.callC (xs := [.tmp 38, .tmp 39]) (cap := []) rfl .no rfl rfl en18 (by repeat (first | exact TakeL.nil | (apply TakeL.cons; · repeat (first | exact Take1.head | apply Take1.tail)))) (fun w hw => IH (some a) hoa hla w (hw.getRo (by repeat (first | exact Take1.head | apply Take1.tail))) (hw.getRo (by repeat (first | exact Take1.head | apply Take1.tail)))) rfl (fun _ => ⟨_, (by repeat (first | exact TakeL.nil | (apply TakeL.cons; · repeat (first | exact Take1.head | apply Take1.tail))))⟩) ?_
          rintro ⟨⟩ -
          refine WD.take 3 rfl (by kernel_rfl) (by kernel_rfl) (by kernel_rfl) rfl rfl (Yl.move rfl) rfl ?_
          refine WD.both (t := 41) rfl (fun g41 => ?_) (fun g41 => ?_)
          · refine WD.takeOn 4 rfl (by kernel_rfl) (by kernel_rfl) (by kernel_rfl) rfl rfl rfl rfl (Yl.load on45 rfl (by repeat (first | exact Take1.head | apply Take1.tail)) (by rfl)) rfl ?_
            refine WD.takeOn 5 rfl (by kernel_rfl) (by kernel_rfl) (by kernel_rfl) rfl rfl rfl rfl (Yl.loadN ag34 rfl (by repeat (first | exact Take1.head | apply Take1.tail)) (by rfl) (show _ = tmC (some b) from rfl)) rfl ?_
            refine WD.one 6 (by kernel_rfl) ?_
            refine WO.callC (xs := [.tmp 43]) (cap := []) rfl (.on rfl rfl) rfl rfl en17 (by repeat (first | exact TakeL.nil | (apply TakeL.cons; · repeat (first | exact Take1.head | apply Take1.tail)))) (fun w hw => public_any (some b) hob (by have : (encO (some b)).length = b.enc.length := rfl; omega) w hw.left.here) rfl (fun _ => ⟨_, (by repeat (first | exact TakeL.nil | (apply TakeL.cons; · repeat (first | exact Take1.head | apply Take1.tail))))⟩) ?_
            rintro ⟨⟩ -
            refine WD.one 7 (by kernel_rfl) ?_
            refine WO.callC (xs := [.tmp 42, .tmp 44]) (cap := []) rfl (.on rfl rfl) rfl rfl en18 (by repeat (first | exact TakeL.nil | (apply TakeL.cons; · repeat (first | exact Take1.head | apply Take1.tail)))) (fun w hw => IH (pubO (some b)) hpb hlpb w (hw.getRo (by repeat (first | exact Take1.head | apply Take1.tail))) (hw.getRo (by repeat (first | exact Take1.head | apply Take1.tail)))) rfl (fun _ => ⟨_, (by repeat (first | exact TakeL.nil | (apply TakeL.cons; · repeat (first | exact Take1.head | apply Take1.tail))))⟩) ?_
            rintro ⟨⟩ -
            refine WD.take 8 rfl (by kernel_rfl) (by kernel_rfl) (by kernel_rfl) rfl rfl (Yl.pickT rfl rfl) rfl ?_
            refine WD.take 9 rfl (by kernel_rfl) (by kernel_rfl) (by kernel_rfl) rfl rfl (Yl.move rfl) rfl ?_
            refine WD.both (t := 47) rfl (fun g47 => ?_) (fun g47 => ?_)
            · refine WD.takeOff 10 rfl (by kernel_rfl) (by kernel_rfl) (by kernel_rfl) rfl rfl rfl rfl rfl rfl ?_
              refine WD.takeOff 11 rfl (by kernel_rfl) (by kernel_rfl) (by kernel_rfl) rfl rfl rfl rfl rfl rfl ?_
              refine WD.one 12 (by kernel_rfl) ?_
              refine WO.off rfl rfl rfl rfl rfl rfl rfl ?_
              refine WD.takeOff 13 rfl (by kernel_rfl) (by kernel_rfl) (by kernel_rfl) rfl rfl rfl rfl rfl rfl ?_
              refine WD.takeOffU 14 rfl (by kernel_rfl) (by kernel_rfl) (by kernel_rfl) rfl rfl rfl rfl rfl ?_
              refine WD.takeOffU 15 rfl (by kernel_rfl) (by kernel_rfl) (by kernel_rfl) rfl rfl rfl rfl rfl ?_
              refine WD.one 16 (by kernel_rfl) ?_
              refine WO.offU rfl rfl rfl rfl rfl rfl ?_
              refine WD.one 17 (by kernel_rfl) ?_
              refine WO.offU rfl rfl rfl rfl rfl rfl ?_
              refine WD.takeOff 18 rfl (by kernel_rfl) (by kernel_rfl) (by kernel_rfl) rfl rfl rfl rfl rfl rfl ?_
              refine WD.take 19 rfl (by kernel_rfl) (by kernel_rfl) (by kernel_rfl) rfl rfl (Yl.pickT rfl rfl) rfl ?_
              refine WD.one 20 (by kernel_rfl) ?_
              refine WO.sto rfl rfl .no (Sto.one sz4 rfl rfl (by repeat (first | exact Take1.head | apply Take1.tail)) rfl (by rfl) (by rfl)) ⟨_, (by repeat (first | exact TakeL.nil | (apply TakeL.cons; · repeat (first | exact Take1.head | apply Take1.tail))))⟩ ?_
              refine WD.done (by kernel_rfl) ?_
              refine WC.ret ?_
              repeat (first | (with_reducible refine peelT ?_) | (with_reducible refine peelB ?_) | (with_reducible refine peelTX ?_) | (with_reducible refine peelBX ?_) | (with_reducible refine peelBN ?_) | (with_reducible refine peelBO rfl ?_))
              refine retM.of .nil ?_
              exact retV1 (.inr rfl) Try.results18 on4 rfl (by repeat (first | exact Take1.head | apply Take1.tail)) fun w' h => ⟨(), trivial, congrArg (fun b => Ending.returned (Value.bool b)) (by rw [hsix]; simp_all [pubO]), h.sub (by repeat (first | exact TakeL.nil | (apply TakeL.cons; · repeat (first | exact Take1.head | apply Take1.tail))))⟩
            · refine WD.takeOn 10 rfl (by kernel_rfl) (by kernel_rfl) (by kernel_rfl) rfl rfl rfl rfl (Yl.load on45 rfl (by repeat (first | exact Take1.head | apply Take1.tail)) (by rfl)) rfl ?_
              refine WD.takeOn 11 rfl (by kernel_rfl) (by kernel_rfl) (by kernel_rfl) rfl rfl rfl rfl (Yl.loadN ag34 rfl (by repeat (first | exact Take1.head | apply Take1.tail)) (by rfl) (show _ = tmC (some b) from rfl)) rfl ?_
              refine WD.one 12 (by kernel_rfl) ?_
              refine WO.callC (xs := [.tmp 48, .tmp 49]) (cap := []) rfl (.on rfl rfl) rfl rfl en18 (by repeat (first | exact TakeL.nil | (apply TakeL.cons; · repeat (first | exact Take1.head | apply Take1.tail)))) (fun w hw => IH (some b) hob hlb w (hw.getRo (by repeat (first | exact Take1.head | apply Take1.tail))) (hw.getRo (by repeat (first | exact Take1.head | apply Take1.tail)))) rfl (fun _ => ⟨_, (by repeat (first | exact TakeL.nil | (apply TakeL.cons; · repeat (first | exact Take1.head | apply Take1.tail))))⟩) ?_
              rintro ⟨⟩ -
              refine WD.takeOn 13 rfl (by kernel_rfl) (by kernel_rfl) (by kernel_rfl) rfl rfl rfl rfl (Yl.move rfl) rfl ?_
              refine WD.both (t := 51) rfl (fun g51 => ?_) (fun g51 => ?_)
              · refine WD.takeOn 14 rfl (by kernel_rfl) (by kernel_rfl) (by kernel_rfl) rfl rfl rfl rfl (Yl.load on45 rfl (by repeat (first | exact Take1.head | apply Take1.tail)) (by rfl)) rfl ?_
                refine WD.takeOn 15 rfl (by kernel_rfl) (by kernel_rfl) (by kernel_rfl) rfl rfl rfl rfl (Yl.loadN ag34 rfl (by repeat (first | exact Take1.head | apply Take1.tail)) (by rfl) (show _ = tmC (some a) from rfl)) rfl ?_
                refine WD.one 16 (by kernel_rfl) ?_
                refine WO.callC (xs := [.tmp 53]) (cap := []) rfl (.on rfl rfl) rfl rfl en17 (by repeat (first | exact TakeL.nil | (apply TakeL.cons; · repeat (first | exact Take1.head | apply Take1.tail)))) (fun w hw => public_any (some a) hoa (by have : (encO (some a)).length = a.enc.length := rfl; omega) w hw.left.here) rfl (fun _ => ⟨_, (by repeat (first | exact TakeL.nil | (apply TakeL.cons; · repeat (first | exact Take1.head | apply Take1.tail))))⟩) ?_
                rintro ⟨⟩ -
                refine WD.one 17 (by kernel_rfl) ?_
                refine WO.callC (xs := [.tmp 52, .tmp 54]) (cap := []) rfl (.on rfl rfl) rfl rfl en18 (by repeat (first | exact TakeL.nil | (apply TakeL.cons; · repeat (first | exact Take1.head | apply Take1.tail)))) (fun w hw => IH (pubO (some a)) hpa hlpa w (hw.getRo (by repeat (first | exact Take1.head | apply Take1.tail))) (hw.getRo (by repeat (first | exact Take1.head | apply Take1.tail)))) rfl (fun _ => ⟨_, (by repeat (first | exact TakeL.nil | (apply TakeL.cons; · repeat (first | exact Take1.head | apply Take1.tail))))⟩) ?_
                rintro ⟨⟩ -
                refine WD.takeOn 18 rfl (by kernel_rfl) (by kernel_rfl) (by kernel_rfl) rfl rfl rfl rfl (Yl.pickT rfl rfl) rfl ?_
                refine WD.take 19 rfl (by kernel_rfl) (by kernel_rfl) (by kernel_rfl) rfl rfl (Yl.pickF rfl rfl) rfl ?_
                refine WD.one 20 (by kernel_rfl) ?_
                refine WO.sto rfl rfl .no (Sto.one sz4 rfl rfl (by repeat (first | exact Take1.head | apply Take1.tail)) rfl (by rfl) (by rfl)) ⟨_, (by repeat (first | exact TakeL.nil | (apply TakeL.cons; · repeat (first | exact Take1.head | apply Take1.tail))))⟩ ?_
                refine WD.done (by kernel_rfl) ?_
                refine WC.ret ?_
                repeat (first | (with_reducible refine peelT ?_) | (with_reducible refine peelB ?_) | (with_reducible refine peelTX ?_) | (with_reducible refine peelBX ?_) | (with_reducible refine peelBN ?_) | (with_reducible refine peelBO rfl ?_))
                refine retM.of .nil ?_
                exact retV1 (.inr rfl) Try.results18 on4 rfl (by repeat (first | exact Take1.head | apply Take1.tail)) fun w' h => ⟨(), trivial, congrArg (fun b => Ending.returned (Value.bool b)) (by rw [hsix]; simp_all [pubO]), h.sub (by repeat (first | exact TakeL.nil | (apply TakeL.cons; · repeat (first | exact Take1.head | apply Take1.tail))))⟩
              · refine WD.takeOff 14 rfl (by kernel_rfl) (by kernel_rfl) (by kernel_rfl) rfl rfl rfl rfl rfl rfl ?_
                refine WD.takeOff 15 rfl (by kernel_rfl) (by kernel_rfl) (by kernel_rfl) rfl rfl rfl rfl rfl rfl ?_
                refine WD.one 16 (by kernel_rfl) ?_
                refine WO.off rfl rfl rfl rfl rfl rfl rfl ?_
                refine WD.one 17 (by kernel_rfl) ?_
                refine WO.off rfl rfl rfl rfl rfl rfl rfl ?_
                refine WD.takeOn 18 rfl (by kernel_rfl) (by kernel_rfl) (by kernel_rfl) rfl rfl rfl rfl (Yl.pickF rfl rfl) rfl ?_
                refine WD.take 19 rfl (by kernel_rfl) (by kernel_rfl) (by kernel_rfl) rfl rfl (Yl.pickF rfl rfl) rfl ?_
                refine WD.one 20 (by kernel_rfl) ?_
                refine WO.sto rfl rfl .no (Sto.one sz4 rfl rfl (by repeat (first | exact Take1.head | apply Take1.tail)) rfl (by rfl) (by rfl)) ⟨_, (by repeat (first | exact TakeL.nil | (apply TakeL.cons; · repeat (first | exact Take1.head | apply Take1.tail))))⟩ ?_
                refine WD.done (by kernel_rfl) ?_
                refine WC.ret ?_
                repeat (first | (with_reducible refine peelT ?_) | (with_reducible refine peelB ?_) | (with_reducible refine peelTX ?_) | (with_reducible refine peelBX ?_) | (with_reducible refine peelBN ?_) | (with_reducible refine peelBO rfl ?_))
                refine retM.of .nil ?_
                exact retV1 (.inr rfl) Try.results18 on4 rfl (by repeat (first | exact Take1.head | apply Take1.tail)) fun w' h => ⟨(), trivial, congrArg (fun b => Ending.returned (Value.bool b)) (by rw [hsix]; simp_all [pubO]), h.sub (by repeat (first | exact TakeL.nil | (apply TakeL.cons; · repeat (first | exact Take1.head | apply Take1.tail))))⟩
          · refine WD.takeOff 4 rfl (by kernel_rfl) (by kernel_rfl) (by kernel_rfl) rfl rfl rfl rfl rfl rfl ?_
            refine WD.takeOff 5 rfl (by kernel_rfl) (by kernel_rfl) (by kernel_rfl) rfl rfl rfl rfl rfl rfl ?_
            refine WD.one 6 (by kernel_rfl) ?_
            refine WO.off rfl rfl rfl rfl rfl rfl rfl ?_
            refine WD.one 7 (by kernel_rfl) ?_
            refine WO.off rfl rfl rfl rfl rfl rfl rfl ?_
            refine WD.take 8 rfl (by kernel_rfl) (by kernel_rfl) (by kernel_rfl) rfl rfl (Yl.pickF rfl rfl) rfl ?_
            refine WD.take 9 rfl (by kernel_rfl) (by kernel_rfl) (by kernel_rfl) rfl rfl (Yl.move rfl) rfl ?_
            refine WD.takeOn 10 rfl (by kernel_rfl) (by kernel_rfl) (by kernel_rfl) rfl rfl rfl rfl (Yl.load on45 rfl (by repeat (first | exact Take1.head | apply Take1.tail)) (by rfl)) rfl ?_
            refine WD.takeOn 11 rfl (by kernel_rfl) (by kernel_rfl) (by kernel_rfl) rfl rfl rfl rfl (Yl.loadN ag34 rfl (by repeat (first | exact Take1.head | apply Take1.tail)) (by rfl) (show _ = tmC (some b) from rfl)) rfl ?_
            refine WD.one 12 (by kernel_rfl) ?_
            refine WO.callC (xs := [.tmp 48, .tmp 49]) (cap := []) rfl (.on rfl rfl) rfl rfl en18 (by repeat (first | exact TakeL.nil | (apply TakeL.cons; · repeat (first | exact Take1.head | apply Take1.tail)))) (fun w hw => IH (some b) hob hlb w (hw.getRo (by repeat (first | exact Take1.head | apply Take1.tail))) (hw.getRo (by repeat (first | exact Take1.head | apply Take1.tail)))) rfl (fun _ => ⟨_, (by repeat (first | exact TakeL.nil | (apply TakeL.cons; · repeat (first | exact Take1.head | apply Take1.tail))))⟩) ?_
            rintro ⟨⟩ -
            refine WD.takeOn 13 rfl (by kernel_rfl) (by kernel_rfl) (by kernel_rfl) rfl rfl rfl rfl (Yl.move rfl) rfl ?_
            refine WD.both (t := 51) rfl (fun g51 => ?_) (fun g51 => ?_)
            · refine WD.takeOn 14 rfl (by kernel_rfl) (by kernel_rfl) (by kernel_rfl) rfl rfl rfl rfl (Yl.load on45 rfl (by repeat (first | exact Take1.head | apply Take1.tail)) (by rfl)) rfl ?_
              refine WD.takeOn 15 rfl (by kernel_rfl) (by kernel_rfl) (by kernel_rfl) rfl rfl rfl rfl (Yl.loadN ag34 rfl (by repeat (first | exact Take1.head | apply Take1.tail)) (by rfl) (show _ = tmC (some a) from rfl)) rfl ?_
              refine WD.one 16 (by kernel_rfl) ?_
              refine WO.callC (xs := [.tmp 53]) (cap := []) rfl (.on rfl rfl) rfl rfl en17 (by repeat (first | exact TakeL.nil | (apply TakeL.cons; · repeat (first | exact Take1.head | apply Take1.tail)))) (fun w hw => public_any (some a) hoa (by have : (encO (some a)).length = a.enc.length := rfl; omega) w hw.left.here) rfl (fun _ => ⟨_, (by repeat (first | exact TakeL.nil | (apply TakeL.cons; · repeat (first | exact Take1.head | apply Take1.tail))))⟩) ?_
              rintro ⟨⟩ -
              refine WD.one 17 (by kernel_rfl) ?_
              refine WO.callC (xs := [.tmp 52, .tmp 54]) (cap := []) rfl (.on rfl rfl) rfl rfl en18 (by repeat (first | exact TakeL.nil | (apply TakeL.cons; · repeat (first | exact Take1.head | apply Take1.tail)))) (fun w hw => IH (pubO (some a)) hpa hlpa w (hw.getRo (by repeat (first | exact Take1.head | apply Take1.tail))) (hw.getRo (by repeat (first | exact Take1.head | apply Take1.tail)))) rfl (fun _ => ⟨_, (by repeat (first | exact TakeL.nil | (apply TakeL.cons; · repeat (first | exact Take1.head | apply Take1.tail))))⟩) ?_
              rintro ⟨⟩ -
              refine WD.takeOn 18 rfl (by kernel_rfl) (by kernel_rfl) (by kernel_rfl) rfl rfl rfl rfl (Yl.pickT rfl rfl) rfl ?_
              refine WD.take 19 rfl (by kernel_rfl) (by kernel_rfl) (by kernel_rfl) rfl rfl (Yl.pickF rfl rfl) rfl ?_
              refine WD.one 20 (by kernel_rfl) ?_
              refine WO.sto rfl rfl .no (Sto.one sz4 rfl rfl (by repeat (first | exact Take1.head | apply Take1.tail)) rfl (by rfl) (by rfl)) ⟨_, (by repeat (first | exact TakeL.nil | (apply TakeL.cons; · repeat (first | exact Take1.head | apply Take1.tail))))⟩ ?_
              refine WD.done (by kernel_rfl) ?_
              refine WC.ret ?_
              repeat (first | (with_reducible refine peelT ?_) | (with_reducible refine peelB ?_) | (with_reducible refine peelTX ?_) | (with_reducible refine peelBX ?_) | (with_reducible refine peelBN ?_) | (with_reducible refine peelBO rfl ?_))
              refine retM.of .nil ?_
              exact retV1 (.inr rfl) Try.results18 on4 rfl (by repeat (first | exact Take1.head | apply Take1.tail)) fun w' h => ⟨(), trivial, congrArg (fun b => Ending.returned (Value.bool b)) (by rw [hsix]; simp_all [pubO]), h.sub (by repeat (first | exact TakeL.nil | (apply TakeL.cons; · repeat (first | exact Take1.head | apply Take1.tail))))⟩
            · refine WD.takeOff 14 rfl (by kernel_rfl) (by kernel_rfl) (by kernel_rfl) rfl rfl rfl rfl rfl rfl ?_
              refine WD.takeOff 15 rfl (by kernel_rfl) (by kernel_rfl) (by kernel_rfl) rfl rfl rfl rfl rfl rfl ?_
              refine WD.one 16 (by kernel_rfl) ?_
              refine WO.off rfl rfl rfl rfl rfl rfl rfl ?_
              refine WD.one 17 (by kernel_rfl) ?_
              refine WO.off rfl rfl rfl rfl rfl rfl rfl ?_
              refine WD.takeOn 18 rfl (by kernel_rfl) (by kernel_rfl) (by kernel_rfl) rfl rfl rfl rfl (Yl.pickF rfl rfl) rfl ?_
              refine WD.take 19 rfl (by kernel_rfl) (by kernel_rfl) (by kernel_rfl) rfl rfl (Yl.pickF rfl rfl) rfl ?_
              refine WD.one 20 (by kernel_rfl) ?_
              refine WO.sto rfl rfl .no (Sto.one sz4 rfl rfl (by repeat (first | exact Take1.head | apply Take1.tail)) rfl (by rfl) (by rfl)) ⟨_, (by repeat (first | exact TakeL.nil | (apply TakeL.cons; · repeat (first | exact Take1.head | apply Take1.tail))))⟩ ?_
              refine WD.done (by kernel_rfl) ?_
              refine WC.ret ?_
              repeat (first | (with_reducible refine peelT ?_) | (with_reducible refine peelB ?_) | (with_reducible refine peelTX ?_) | (with_reducible refine peelBX ?_) | (with_reducible refine peelBN ?_) | (with_reducible refine peelBO rfl ?_))
              refine retM.of .nil ?_
              exact retV1 (.inr rfl) Try.results18 on4 rfl (by repeat (first | exact Take1.head | apply Take1.tail)) fun w' h => ⟨(), trivial, congrArg (fun b => Ending.returned (Value.bool b)) (by rw [hsix]; simp_all [pubO]), h.sub (by repeat (first | exact TakeL.nil | (apply TakeL.cons; · repeat (first | exact Take1.head | apply Take1.tail))))⟩
        · refine WC.skip ?_
          refine WC.seq ?_
          refine WC.seq ?_
          have h1 : k ≠ 1 := g29
          have h6 : k ≠ 6 := g31
          have hall := canB_all (m := m) (n := nn) (l := ps) h1 h6 (by rw [g26]; decide)
          refine WC.region ?_
          refine WL.y (Yl.loadN ag34 rfl (by repeat (first | exact Take1.head | apply Take1.tail)) (by rfl) (show _ = tmC (some (.mk k nn ps)) from rfl)) rfl ?_
          refine WL.callC (xs := [.tmp 58]) (cap := []) rfl rfl en10 (by repeat (first | exact TakeL.nil | (apply TakeL.cons; · repeat (first | exact Take1.head | apply Take1.tail)))) (fun w hw => parts_any (some (.mk k nn ps)) ho (show (Tm.mk k nn ps).enc.length ≤ _ by omega) w hw.left.here) rfl ?_
          rintro ⟨bn, own⟩ -
          rw [show ptO (some (Tm.mk k nn ps)) = ps from rfl]
          dsimp only [List.cons_append, List.nil_append]
          refine WL.nil ?_
          refine WC.block ?_
          refine WC.range (α := Unit) (lb := [.pointer (some ⟨bn, 0, none⟩)]) (xs := yrM ps) (fun i _ => [blkR b2 45 [.pointer (some ⟨kb, 0, none⟩)], blkR b4 4 [.bool false], roR (blkR kb 78 [.map (some mb)]), roR (mapR tmV unV mb m)]) (fun i _ => (ps.take i).all (fun t => canB m (some t)) = true) () rfl en30 yrM_size rfl (by repeat (first | exact Take1.head | apply Take1.tail)) rfl (by repeat (first | exact TakeL.nil | (apply TakeL.cons; · repeat (first | exact Take1.head | apply Take1.tail)))) ?_ ?_
          · rintro l2 i x ⟨⟩ hx hci W
            dsimp only
            obtain ⟨x, hx0, rfl⟩ := yrM_at hx
            have hil := (List.getElem?_eq_some_iff.1 hx0).1
            have hnx : ps.take (i + 1) = ps.take i ++ [x] := (take_snoc _ _ _ hx0).symm
            have hxo : OkO (some x) := fun s h => by cases h; exact oks_get hok.2 hx0
            have hxl := hpl i x hx0
            show WC _ _ _ ((60, tmV (some x)) :: _) _ _
            refine WC.region ?_
            refine WL.to (To.alloc (cs := [.string (strOfNums [])]) zr34 rfl) rfl ?_
            intro b9
            refine WL.sto (Sto.agg sz34 rfl rfl (by repeat (first | exact Take1.head | apply Take1.tail)) (tm_ones _) rfl (by rfl) (show _ = tmC (some x) from rfl)) (fun _ h => nomatch h) ?_
            refine WL.nil ?_
            repeat (first | (with_reducible refine peelT ?_) | (with_reducible refine peelB ?_) | (with_reducible refine peelTX ?_) | (with_reducible refine peelBX ?_) | (with_reducible refine peelBN ?_) | (with_reducible refine peelBO rfl ?_))
            refine fun W2 => ?_
            refine WC.block ?_
            refine WC.seq ?_
            refine WC.region ?_
            refine WL.y (Yl.load on45 rfl (by repeat (first | exact Take1.head | apply Take1.tail)) (by rfl)) rfl ?_
            refine WL.y (Yl.loadN ag34 rfl (by repeat (first | exact Take1.head | apply Take1.tail)) (by rfl) (show _ = tmC (some x) from rfl)) rfl ?_
            refine WL.callC (xs := [.tmp 61, .tmp 62]) (cap := []) rfl rfl en18 (by repeat (first | exact TakeL.nil | (apply TakeL.cons; · repeat (first | exact Take1.head | apply Take1.tail)))) (fun w hw => IH (some x) hxo hxl w (hw.getRo (by repeat (first | exact Take1.head | apply Take1.tail))) (hw.getRo (by repeat (first | exact Take1.head | apply Take1.tail)))) rfl ?_
            rintro ⟨⟩ -
            refine WL.y (Yl.not rfl) rfl ?_
            refine WL.nil ?_
            refine WC.cond rfl (fun g64 => ?_) (fun g64 => ?_)
            · refine WC.seq ?_
              refine WC.region ?_
              refine WL.sto (Sto.one sz4 rfl rfl (by repeat (first | exact Take1.head | apply Take1.tail)) rfl (by rfl) (by rfl)) (fun _ h => nomatch h) ?_
              refine WL.nil ?_
              refine WC.ret ?_
              repeat (first | (with_reducible refine peelT ?_) | (with_reducible refine peelB ?_) | (with_reducible refine peelTX ?_) | (with_reducible refine peelBX ?_) | (with_reducible refine peelBN ?_) | (with_reducible refine peelBO rfl ?_))
              have hb : canB m (some x) = false := by simpa using g64
              have hall2 : canB m (some (.mk k nn ps)) = false := by
                rw [hall, Bool.eq_false_iff]
                intro h
                rw [List.all_eq_true.1 h x (List.mem_of_getElem? hx0)] at hb
                cases hb
              rw [hall2]
              refine ⟨[blkR b4 4 [.bool false], roR (blkR kb 78 [.map (some mb)]), roR (mapR tmV unV mb m)], _, (by repeat (first | exact TakeL.nil | (apply TakeL.cons; · repeat (first | exact Take1.head | apply Take1.tail)))), fun D => ?_⟩
              dsimp only [List.cons_append, List.nil_append]
              repeat (first | (with_reducible refine peelT ?_) | (with_reducible refine peelB ?_) | (with_reducible refine peelTX ?_) | (with_reducible refine peelBX ?_) | (with_reducible refine peelBN ?_) | (with_reducible refine peelBO rfl ?_))
              refine retM.of (.cons (by repeat (first | exact Take1.head | apply Take1.tail)) .nil) ?_
              exact retV1 (.inr rfl) Try.results18 on4 rfl (by repeat (first | exact Take1.head | apply Take1.tail)) fun w' h => ⟨(), trivial, rfl, h.sub (by repeat (first | exact TakeL.nil | (apply TakeL.cons; · repeat (first | exact Take1.head | apply Take1.tail))))⟩
            · refine WC.skip ?_
              repeat (first | (with_reducible refine peelT ?_) | (with_reducible refine peelB ?_) | (with_reducible refine peelTX ?_) | (with_reducible refine peelBX ?_) | (with_reducible refine peelBN ?_) | (with_reducible refine peelBO rfl ?_))
              have hb : canB m (some x) = true := by simpa using g64
              refine ⟨[blkR b2 45 [.pointer (some ⟨kb, 0, none⟩)], blkR b4 4 [.bool false], roR (blkR kb 78 [.map (some mb)]), roR (mapR tmV unV mb m)], _, (by repeat (first | exact TakeL.nil | (apply TakeL.cons; · repeat (first | exact Take1.head | apply Take1.tail)))), (), ?_, rfl⟩
              rw [hnx, List.all_append, hci, List.all_cons, List.all_nil, hb]
              rfl
          · rintro ⟨⟩ D hci
            rw [yrM_len, List.take_length] at hci
            rw [hci] at hall
            rw [hall]
            dsimp only [List.cons_append, List.nil_append]
            refine WC.seq ?_
            refine WC.region ?_
            refine WL.sto (Sto.one sz4 rfl rfl (by repeat (first | exact Take1.head | apply Take1.tail)) rfl (by rfl) (by rfl)) (fun _ h => nomatch h) ?_
            refine WL.nil ?_
            refine WC.ret ?_
            repeat (first | (with_reducible refine peelT ?_) | (with_reducible refine peelB ?_) | (with_reducible refine peelTX ?_) | (with_reducible refine peelBX ?_) | (with_reducible refine peelBN ?_) | (with_reducible refine peelBO rfl ?_))
            refine retM.of (.cons (by repeat (first | exact Take1.head | apply Take1.tail)) .nil) ?_
            exact retV1 (.inr rfl) Try.results18 on4 rfl (by repeat (first | exact Take1.head | apply Take1.tail)) fun w' h => ⟨(), trivial, rfl, h.sub (by repeat (first | exact TakeL.nil | (apply TakeL.cons; · repeat (first | exact Take1.head | apply Take1.tail))))⟩
theorem can_all_n (kb mb : Nat) (m : MpT) (hm : MpG m) : ∀ n, n ≤ 900000 → CanC n kb mb m := by
  intro n
  have hst : ∀ n, n + 1 ≤ 900000 → CanC n kb mb m → CanC (n + 1) kb mb m := by
    intro n hn IH o ho hl w h1 h2
    refine Fn.free (A := knL kb mb m) knL_ro (knL_ok h1 h2) (fun hw => can_step kb mb m hm n hn IH o ho hl w hw)
  induction n with
  | zero =>
    intro _ o ho hl w h1 h2
    have e : o = none := encO_nil.1 (List.length_eq_zero_iff.1 (by omega))
    subst e
    refine Fn.free (A := knL kb mb m) knL_ro (knL_ok h1 h2) (fun hw => ?_)
    exact canNo_any kb mb m w hw
  | succ n IH => exact fun hn => hst n hn (IH (by omega))
theorem can_any (kb mb : Nat) (m : MpT) (hm : MpG m) (o : Option Tm) (ho : OkO o) (hlen : (encO o).length ≤ 900000) (w : World) (h1 : (blkR kb 78 [.map (some mb)]).ok w) (h2 : (mapR tmV unV mb m).ok w) :
    Fn Try.prog 18 [.pointer (some ⟨kb, 0, none⟩), tmV o] [] w (fun _ : Unit => True) (fun _ => .bool (canB m o)) (fun _ => []) := can_all_n kb mb m hm 900000 (Nat.le_refl _) o ho hlen w h1 h2
end Go.Proofs.Ytifhkjcimhhaiaa
