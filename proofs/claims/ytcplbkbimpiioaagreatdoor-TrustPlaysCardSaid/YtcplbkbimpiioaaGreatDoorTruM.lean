/- The keys of a contact, one device after the other; in plain Lean. -/
import Derived.Test.YtcplbkbimpiioaaGreatDoorTruI
import Derived.Test.YtcplbkbimpiioaaGreatDoorLibIw
import Derived.Test.YtcplbkbimpiioaaGreatDoorLibI
import Derived.Test.YtcplbkbimpiioaaGreatDoorLibHd
namespace Go.Proofs.YtcplbkbimpiioaaGreatDoor
open Go Go.RowKit
def Ct.to (c : Ct) (i : Nat) : List (Nat × Ky) := devsOf 0 (c.ks.take i) (c.has.take i)
theorem devs_cons (s : Nat) (k : Ky) (ks : List Ky) (b : Bool) (bs : List Bool) : devsOf s (k :: ks) (b :: bs) = (if b then [(s, k)] else []) ++ devsOf (s + 1) ks bs := by cases b <;> rfl
theorem devs_split : ∀ (i s : Nat) (ks : List Ky) (bs : List Bool), i ≤ ks.length → i ≤ bs.length → devsOf s ks bs = devsOf s (ks.take i) (bs.take i) ++ devsOf (s + i) (ks.drop i) (bs.drop i)
  | 0, s, ks, bs, _, _ => by simp [devsOf]
  | i + 1, s, [], bs, h, _ => absurd h (by simp)
  | i + 1, s, k :: ks, [], _, h => absurd h (by simp)
  | i + 1, s, k :: ks, b :: bs, h1, h2 => by
    have ih := devs_split i (s + 1) ks bs (by simpa using h1) (by simpa using h2)
    rw [List.take_succ_cons, List.take_succ_cons, List.drop_succ_cons, List.drop_succ_cons]
    rw [devs_cons, devs_cons, ih, show s + (i + 1) = s + 1 + i by omega, List.append_assoc]
theorem Ct.devs_to {c : Ct} (h : c.ok) {i : Nat} (hi : i ≤ 4) : c.devs = c.to i ++ devsOf i (c.ks.drop i) (c.has.drop i) := by
  have := devs_split i 0 c.ks c.has (by rw [h.kl]; exact hi) (by rw [h.hl]; exact hi)
  rw [Nat.zero_add] at this
  exact this
theorem Ct.to_end {c : Ct} (h : c.ok) : c.to 4 = c.devs := by
  unfold Ct.to Ct.devs
  rw [List.take_of_length_le (by rw [h.kl]; omega), List.take_of_length_le (by rw [h.hl]; omega)]
theorem Ct.drop_at {c : Ct} {i : Nat} {k : Ky} {b : Bool} (hk : c.ks[i]? = some k) (hb : c.has[i]? = some b) : devsOf i (c.ks.drop i) (c.has.drop i) = (if b then [(i, k)] else []) ++ devsOf (i + 1) (c.ks.drop (i + 1)) (c.has.drop (i + 1)) := by
  obtain ⟨h1, rfl⟩ := List.getElem?_eq_some_iff.1 hk
  obtain ⟨h2, rfl⟩ := List.getElem?_eq_some_iff.1 hb
  rw [List.drop_eq_getElem_cons h1, List.drop_eq_getElem_cons h2]
  conv => lhs; unfold devsOf
  cases c.has[i] <;> rfl
theorem Ct.to_next {c : Ct} (h : c.ok) {i : Nat} (hi : i < 4) {k : Ky} {b : Bool} (hk : c.ks[i]? = some k) (hb : c.has[i]? = some b) : c.to (i + 1) = c.to i ++ (if b then [(i, k)] else []) := by
  have h1 := Ct.devs_to h (i := i) (by omega)
  have h2 := Ct.devs_to h (i := i + 1) (by omega)
  rw [Ct.drop_at hk hb, h2, ← List.append_assoc] at h1
  exact List.append_cancel_right h1
theorem Ct.at_yes {c : Ct} (h : c.ok) {i : Nat} (hi : i < 4) {k : Ky} (hk : c.ks[i]? = some k) (hb : c.has[i]? = some true) : c.devs[(c.to i).length]? = some (i, k) := by
  rw [Ct.devs_to h (i := i) (by omega), Ct.drop_at hk hb, List.getElem?_append_right (Nat.le_refl _), Nat.sub_self]
  rfl
theorem Ct.devs_le {c : Ct} (h : c.ok) : c.devs.length ≤ 4 := by
  have := devs_len 0 c.ks c.has
  rw [h.hl] at this
  exact this
theorem Ct.kys_le {c : Ct} (h : c.ok) : c.kys.length ≤ 4 := by rw [← Ct.devs_kys, List.length_map]; exact Ct.devs_le h
theorem Ct.to_lt {c : Ct} (h : c.ok) {i : Nat} (hi : i ≤ 4) : (c.to i).length ≤ c.devs.length := by
  rw [Ct.devs_to h hi, List.length_append]; omega
def kTo (c : Ct) (i : Nat) : List Ky := (c.to i).map (·.2)
theorem kTo_next {c : Ct} (h : c.ok) {i : Nat} (hi : i < 4) {k : Ky} {b : Bool} (hk : c.ks[i]? = some k) (hb : c.has[i]? = some b) : kTo c (i + 1) = kTo c i ++ (if b then [k] else []) := by
  unfold kTo
  rw [Ct.to_next h hi hk hb, List.map_append]
  cases b <;> rfl
theorem kTo_end {c : Ct} (h : c.ok) : kTo c 4 = c.kys := by unfold kTo; rw [Ct.to_end h, Ct.devs_kys]
/-- What is handed over: a device, its key. -/
def ysK (a : Int) (l : List (Nat × Ky)) : List (Array Value) := l.map fun p => #[.agg #[.int .u8 a, .int .u8 (p.1 : Int)], kyV p.2]
theorem ysK_len (a : Int) (l : List (Nat × Ky)) : (ysK a l).length = l.length := by unfold ysK; rw [List.length_map]
theorem ysK_size (a : Int) (l : List (Nat × Ky)) : ∀ x ∈ ysK a l, x.size = 2 := by
  intro x hx
  obtain ⟨p, _, rfl⟩ := List.mem_map.1 hx
  rfl
end Go.Proofs.YtcplbkbimpiioaaGreatDoor

namespace Go.Proofs.YtcplbkbimpiioaaGreatDoor
open Go Go.RowKit
theorem mapB_at {l : List Bool} {i : Nat} {b : Bool} (h : l[i]? = some b) : (l.map Value.bool)[i]? = some (.bool b) := by rw [List.getElem?_map, h]; rfl
set_option maxRecDepth 100000 in
theorem all_any (nb : Nat) (c : Ct) (hok : c.ok) (w : World) (hw : OK w (fpL [blkR nb 70 c.cells]) [blkR nb 70 c.cells] w) :
    Fn Tryz.prog 27 [.pointer (some ⟨nb, 0, none⟩)] [blkR nb 70 c.cells] w (fun _ : Option Addr × Nat => True) (fun y => .slice y.1 c.kys.length y.2) (fun y => [rwK (.slice y.1 c.kys.length y.2) c.kys.length c.kys, blkR nb 70 c.cells]) := by
  refine enterF Tryz.func27 rfl Tryz.ntmps27 rfl hw ?_
  refine WC.seq ?_
  refine WC.region ?_
  refine WL.y (Yl.assign rfl) rfl ?_
  refine WL.nil ?_
  refine WC.seq ?_
  refine WC.region ?_
  refine WL.y (Yl.assign rfl) rfl ?_
  refine WL.nil ?_
  refine WC.seq ?_
  refine WC.seq ?_
  refine WC.region ?_
  refine WL.y (Yl.move rfl) rfl ?_
  refine WL.y (Yl.nilCheck rfl) rfl ?_
  refine WL.y (Yl.field fo70_1 rfl) rfl ?_
  refine WL.y (Yl.loadNP (T := 70) (cs := c.cells) ag30 rfl (by repeat constructor) (by rw [Ct.len hok]; omega) (Ct.hasL hok)) rfl ?_
  refine WL.y (Yl.move rfl) rfl ?_
  refine WL.nil ?_
  refine WC.block ?_
  refine WC.view (fun w h => h.addNil 32 32) ?_
  refine WC.loop (α := Nat × (Option Addr × Nat)) (fun p => [(0, .pointer (some ⟨nb, 0, none⟩)), (3, .slice p.2.1 (kTo c p.1).length p.2.2), (9, .agg (c.has.map Value.bool).toArray), (10, .int .i64 (p.1 : Int))]) (fun p => [rwK (.slice p.2.1 (kTo c p.1).length p.2.2) (kTo c p.1).length (kTo c p.1), blkR nb 70 c.cells]) (fun p => p.1 ≤ 4) (fun p => 4 - p.1) (0, none, 0) (Nat.zero_le _) ⟨(by repeat' constructor), _, (by repeat' constructor)⟩ ?_
  rintro ⟨i, a3, c3⟩ hi
  dsimp only at hi ⊢
  refine WC.seq ?_
  refine WC.region ?_
  refine WL.y (Yl.lss rfl rfl) rfl ?_
  refine WL.nil ?_
  refine WC.seq ?_
  refine WC.condD rfl (fun g11 => ?_) (fun g11 => ?_)
  · refine WC.skip ?_
    refine WC.seq ?_
    refine WC.block ?_
    refine WC.seq ?_
    refine WC.region ?_
    have hi4 : i < 4 := by omega
    obtain ⟨hd, hb⟩ : ∃ hd, c.has[i]? = some hd := ⟨_, List.getElem?_eq_getElem (by rw [hok.hl]; exact hi4)⟩
    obtain ⟨k, hk⟩ : ∃ k0, c.ks[i]? = some k0 := ⟨_, List.getElem?_eq_getElem (by rw [hok.kl]; exact hi4)⟩
    have hnx := kTo_next hok hi4 hk hb
    have hle : (kTo c i).length ≤ 4 := by
      have h1 := Ct.to_lt hok hi
      have h2 := Ct.devs_le hok
      unfold kTo
      rw [List.length_map]; omega
    have hle2 : (kTo c (i + 1)).length ≤ 4 := by
      have h1 := Ct.to_lt hok (i := i + 1) (by omega)
      have h2 := Ct.devs_le hok
      unfold kTo
      rw [List.length_map]; omega
    refine WL.y (Yl.move rfl) rfl ?_
    refine WL.y (Yl.idx un30 sz4 on4 rfl rfl rfl (by omega) (mapB_at hb)) rfl ?_
    refine WL.y (Yl.assign rfl) rfl ?_
    refine WL.y (Yl.assign rfl) rfl ?_
    refine WL.nil ?_
    refine WC.seq ?_
    refine WC.region ?_
    refine WL.y (Yl.move rfl) rfl ?_
    refine WL.nil ?_
    refine WC.cond rfl (fun g14 => ?_) (fun g14 => ?_)
    · refine WC.region ?_
      refine WL.y (Yl.move rfl) rfl ?_
      refine WL.y (Yl.move rfl) rfl ?_
      refine WL.y (Yl.move rfl) rfl ?_
      refine WL.y (Yl.nilCheck rfl) rfl ?_
      refine WL.y (Yl.field fo70_0 rfl) rfl ?_
      refine WL.y (Yl.indexA un33 sz32 rfl rfl rfl (by omega)) rfl ?_
      refine WL.y (Yl.loadNP (T := 70) (cs := c.cells) ag32 rfl (by repeat constructor) (by rw [Ct.len hok]; omega) (Ct.key' hok hk (by omega))) rfl ?_
      refine WL.to (To.buildSlice (vs := [kyV k]) un22 zs32 rfl rfl (fun v hv => by rw [List.mem_singleton] at hv; subst hv; unfold kyV; simp [Value.cells, Ky.clen]) (by decide) (by decide)) rfl ?_
      intro b22
      refine WL.to (To.append sl22 rfl rfl (by repeat constructor) (Reads.of (RdOf.blk (size := 32) (n := 1) (cs := flat [kyV k]) (cs' := vcs kyV [k]) (Nat.le_refl _) (by unfold maxLen; omega) (by simp [flat, kyV, Value.cells, Ky.clen]) (by rw [List.drop_zero, List.take_of_length_le (by simp [flat, kyV, Value.cells, Ky.clen])]; rfl)) (by repeat constructor)) (vtK.ones _) (show (kTo c i).length + 1 = (kTo c (i + 1)).length by rw [hnx, g14]; simp) (show vcs kyV (kTo c i) ++ vcs kyV [k] = vcs kyV (kTo c (i + 1)) by rw [hnx, g14, if_pos rfl, vcs_app]) (by unfold maxLen; omega) (by omega)) rfl ?_
      rintro ⟨⟨ao23, c23⟩, hc23⟩
      dsimp only at hc23 ⊢
      refine WL.y (Yl.assign rfl) rfl ?_
      refine WL.nil ?_
      refine WC.region ?_
      refine WL.y (Yl.add rfl rfl (IntWalk.i64_in _ (by omega))) rfl ?_
      refine WL.y (Yl.move rfl) rfl ?_
      refine WL.nil ?_
      exact ⟨rfl, (i + 1, ao23, c23), by dsimp only; omega, by dsimp only; omega, (by repeat' constructor), _, (by repeat' constructor)⟩
    · refine WC.skip ?_
      refine WC.region ?_
      refine WL.y (Yl.add rfl rfl (IntWalk.i64_in _ (by omega))) rfl ?_
      refine WL.y (Yl.move rfl) rfl ?_
      refine WL.nil ?_
      have e : kTo c (i + 1) = kTo c i := by rw [hnx, g14]; simp
      rw [← e]
      exact ⟨rfl, (i + 1, a3, c3), by dsimp only; omega, by dsimp only; omega, (by repeat' constructor), _, (by repeat' constructor)⟩
  · refine WC.exit ?_
    refine WC.seq ?_
    refine WC.region ?_
    refine WL.y (Yl.move rfl) rfl ?_
    refine WL.y (Yl.assign rfl) rfl ?_
    refine WL.nil ?_
    refine WC.ret ?_
    repeat (with_reducible (first | refine peelT ?_ | refine peelB ?_ | refine peelTX ?_ | refine peelBX ?_ | refine peelBN ?_ | refine peelBO rfl ?_))
    have hi4 : i = 4 := by omega
    subst hi4
    rw [kTo_end hok]
    exact ret1 (.inr rfl) Tryz.results27 rfl fun w' h => ⟨(a3, c3), trivial, rfl, h.sub (by repeat' constructor)⟩
def keyL (b b2 b3 : Nat) (ao : Option Addr) (cp mb : Nat) (acc : Int) (own : List Ky) (es : Es) (a : Int) : List Res := blkR b2 25 [ptV b] :: blkR b3 5 [.int .u8 a] :: bkL b ao cp mb acc own es
theorem keyL_ro (b b2 b3 : Nat) (ao : Option Addr) (cp mb : Nat) (acc : Int) (own : List Ky) (es : Es) (a : Int) : (keyL b b2 b3 ao cp mb acc own es a).map roR = [roR (blkR b2 25 [ptV b]), roR (blkR b3 5 [.int .u8 a]), roR (blkR b 67 [.int .u8 acc, .slice ao own.length cp, .map (some mb)]), roR (rwK (.slice ao own.length cp) own.length own), roR (mapR (Value.int .u8) ptV mb (pm es)), roR (allR (es.map ctR))] := rfl
theorem ro_nowr {A : List Res} : ∀ r ∈ A.map roR, ∀ k, ¬ r.wr k := by
  intro r hr k hk
  obtain ⟨s, _, rfl⟩ := List.mem_map.1 hr
  exact hk.elim
set_option maxRecDepth 100000 in
theorem keys1_no (b b2 b3 : Nat) (ao : Option Addr) (cp mb : Nat) (acc : Int) (own : List Ky) (es : Es) (hE : EG es) (a : Int) (ha : 0 ≤ a ∧ a < 256) (h1 : mget (pm es) a = none) (w : World) (hA : OK w (fpL ([roR (blkR b2 25 [ptV b]), roR (blkR b3 5 [.int .u8 a]), roR (blkR b 67 [.int .u8 acc, .slice ao own.length cp, .map (some mb)]), roR (rwK (.slice ao own.length cp) own.length own), roR (mapR (Value.int .u8) ptV mb (pm es)), roR (allR (es.map ctR))])) ([roR (blkR b2 25 [ptV b]), roR (blkR b3 5 [.int .u8 a]), roR (blkR b 67 [.int .u8 acc, .slice ao own.length cp, .map (some mb)]), roR (rwK (.slice ao own.length cp) own.length own), roR (mapR (Value.int .u8) ptV mb (pm es)), roR (allR (es.map ctR))]) w) :
    Iter Tryz.prog 58 ([.pointer (some ⟨b2, 0, none⟩), .pointer (some ⟨b3, 0, none⟩)] : List Value).toArray (fpL ([roR (blkR b2 25 [ptV b]), roR (blkR b3 5 [.int .u8 a]), roR (blkR b 67 [.int .u8 acc, .slice ao own.length cp, .map (some mb)]), roR (rwK (.slice ao own.length cp) own.length own), roR (mapR (Value.int .u8) ptV mb (pm es)), roR (allR (es.map ctR))])).rd [] w := by
  have hwr : ∀ r ∈ ([roR (blkR b2 25 [ptV b]), roR (blkR b3 5 [.int .u8 a]), roR (blkR b 67 [.int .u8 acc, .slice ao own.length cp, .map (some mb)]), roR (rwK (.slice ao own.length cp) own.length own), roR (mapR (Value.int .u8) ptV mb (pm es)), roR (allR (es.map ctR))]), ∀ k, ¬ r.wr k := keyL_ro b b2 b3 ao cp mb acc own es a ▸ ro_nowr
  refine iter_of Tryz.func58 rfl Tryz.ntmps58 rfl hA hwr ?_
  intro l W g gx T0 hy
  refine WC.seq ?_
  refine WC.seq ?_
  refine WC.drawRead mixed (by kernel_rfl) ?_
  refine WH.y (Yl.loadRo (T := 25) (cs := [ptV b]) on25 rfl (by repeat constructor) rfl) rfl ?_
  refine WH.y (Yl.nilEq un25 rfl rfl) rfl ?_
  refine WH.y (Yl.move rfl) rfl ?_
  refine WH.know (t := 9) (b' := false) rfl (by first | rfl | (simp; done) | (simp; omega)) ?_
  refine WH.on rfl rfl ?_
  refine WH.y (Yl.loadRo (T := 25) (cs := [ptV b]) on25 rfl (by repeat constructor) rfl) rfl ?_
  refine WH.on rfl rfl ?_
  refine WH.y (Yl.nilCheck rfl) rfl ?_
  refine WH.on rfl rfl ?_
  refine WH.y (Yl.field fo67_2 rfl) rfl ?_
  refine WH.on rfl rfl ?_
  refine WH.y (Yl.loadRo (T := 67) on65 rfl (by repeat constructor) rfl) rfl ?_
  refine WH.on rfl rfl ?_
  refine WH.y (Yl.loadRo (T := 5) on5 rfl (by repeat constructor) rfl) rfl ?_
  refine WH.on rfl rfl ?_
  refine WH.y (Yl.lookup (kv := Value.int .u8) (vv := ptV) (m := pm es) (z := .pointer none) keyU8 un65 zPC hE.pmk rfl rfl (u8_wf ha) (MReads.of (m := pm es) MapOf.ro (by repeat constructor))) rfl ?_
  rw [h1]
  dsimp only [Option.map_none, Option.getD_none]
  refine WH.on rfl rfl ?_
  refine WH.y (Yl.nilEq un68 rfl rfl) rfl ?_
  refine WH.y (Yl.pickF rfl rfl) rfl ?_
  refine WH.know (t := 17) (b' := true) rfl (by first | rfl | (simp; done) | (simp; omega)) ?_
  refine WH.nil ?_
  refine WC.condT rfl (by first | rfl | (simp; done) | (simp; omega)) ?_
  refine WC.ret ?_
  repeat (with_reducible (first | refine peelT ?_ | refine peelB ?_ | refine peelTX ?_ | refine peelBX ?_ | refine peelBN ?_ | refine peelBO rfl ?_))
  exact itEnd (.inr rfl) Tryz.results58 (by repeat constructor)
set_option maxHeartbeats 1600000 in
set_option maxRecDepth 100000 in
theorem keys1_yes (b b2 b3 : Nat) (ao : Option Addr) (cp mb : Nat) (acc : Int) (own : List Ky) (es : Es) (hE : EG es) (a : Int) (ha : 0 ≤ a ∧ a < 256) (j nb : Nat) (c : Ct) (hj : es[j]? = some (a, nb, c)) (h1 : mget (pm es) a = some nb) (w : World) (hA : OK w (fpL ([roR (blkR b2 25 [ptV b]), roR (blkR b3 5 [.int .u8 a]), roR (blkR b 67 [.int .u8 acc, .slice ao own.length cp, .map (some mb)]), roR (rwK (.slice ao own.length cp) own.length own), roR (mapR (Value.int .u8) ptV mb (pm es)), roR (allR (es.map ctR))])) ([roR (blkR b2 25 [ptV b]), roR (blkR b3 5 [.int .u8 a]), roR (blkR b 67 [.int .u8 acc, .slice ao own.length cp, .map (some mb)]), roR (rwK (.slice ao own.length cp) own.length own), roR (mapR (Value.int .u8) ptV mb (pm es)), roR (allR (es.map ctR))]) w) :
    Iter Tryz.prog 58 ([.pointer (some ⟨b2, 0, none⟩), .pointer (some ⟨b3, 0, none⟩)] : List Value).toArray (fpL ([roR (blkR b2 25 [ptV b]), roR (blkR b3 5 [.int .u8 a]), roR (blkR b 67 [.int .u8 acc, .slice ao own.length cp, .map (some mb)]), roR (rwK (.slice ao own.length cp) own.length own), roR (mapR (Value.int .u8) ptV mb (pm es)), roR (allR (es.map ctR))])).rd (ysK a c.devs) w := by
  have hok := hE.ct _ (List.mem_of_getElem? hj)
  dsimp only at hok
  have hwr : ∀ r ∈ ([roR (blkR b2 25 [ptV b]), roR (blkR b3 5 [.int .u8 a]), roR (blkR b 67 [.int .u8 acc, .slice ao own.length cp, .map (some mb)]), roR (rwK (.slice ao own.length cp) own.length own), roR (mapR (Value.int .u8) ptV mb (pm es)), roR (allR (es.map ctR))]), ∀ k, ¬ r.wr k := keyL_ro b b2 b3 ao cp mb acc own es a ▸ ro_nowr
  refine iter_of Tryz.func58 rfl Tryz.ntmps58 rfl hA hwr ?_
  intro l W g gx T0 hy
  refine WC.seq ?_
  refine WC.seq ?_
  refine WC.drawRead mixed (by kernel_rfl) ?_
  refine WH.y (Yl.loadRo (T := 25) (cs := [ptV b]) on25 rfl (by repeat constructor) rfl) rfl ?_
  refine WH.y (Yl.nilEq un25 rfl rfl) rfl ?_
  refine WH.y (Yl.move rfl) rfl ?_
  refine WH.know (t := 9) (b' := false) rfl (by first | rfl | (simp; done) | (simp; omega)) ?_
  refine WH.on rfl rfl ?_
  refine WH.y (Yl.loadRo (T := 25) (cs := [ptV b]) on25 rfl (by repeat constructor) rfl) rfl ?_
  refine WH.on rfl rfl ?_
  refine WH.y (Yl.nilCheck rfl) rfl ?_
  refine WH.on rfl rfl ?_
  refine WH.y (Yl.field fo67_2 rfl) rfl ?_
  refine WH.on rfl rfl ?_
  refine WH.y (Yl.loadRo (T := 67) on65 rfl (by repeat constructor) rfl) rfl ?_
  refine WH.on rfl rfl ?_
  refine WH.y (Yl.loadRo (T := 5) on5 rfl (by repeat constructor) rfl) rfl ?_
  refine WH.on rfl rfl ?_
  refine WH.y (Yl.lookup (kv := Value.int .u8) (vv := ptV) (m := pm es) (z := .pointer none) keyU8 un65 zPC hE.pmk rfl rfl (u8_wf ha) (MReads.of (m := pm es) MapOf.ro (by repeat constructor))) rfl ?_
  rw [h1]
  dsimp only [Option.map_some, Option.getD_some, ptV]
  refine WH.on rfl rfl ?_
  refine WH.y (Yl.nilEq un68 rfl rfl) rfl ?_
  refine WH.y (Yl.pickF rfl rfl) rfl ?_
  refine WH.know (t := 17) (b' := false) rfl (by first | rfl | (simp; done) | (simp; omega)) ?_
  refine WH.nil ?_
  refine WC.condF rfl (by first | rfl | (simp; done) | (simp; omega)) ?_
  refine WC.skip ?_
  refine WC.seq ?_
  refine WC.view (fun w h => h.roPick (r := ctR (a, nb, c)) (by repeat constructor) (List.mem_map.2 ⟨_, List.mem_of_getElem? hj, rfl⟩)) ?_
  refine WC.drawAny (Hs := [roR (blkR nb 70 c.cells), roR (blkR b2 25 [ptV b]), roR (blkR b3 5 [.int .u8 a]), roR (blkR b 67 [.int .u8 acc, .slice ao own.length cp, .map (some mb)]), roR (mapR (Value.int .u8) ptV mb (pm es))]) mixed (by kernel_rfl) ⟨_, (by repeat' constructor)⟩ ?_
  refine WD.tk 0 rfl (by kernel_rfl) rfl rfl (Yl.loadRo (T := 25) (cs := [ptV b]) on25 rfl (by repeat constructor) rfl) rfl ?_
  refine WD.tk 1 rfl (by kernel_rfl) rfl rfl (Yl.nilCheck rfl) rfl ?_
  refine WD.tk 2 rfl (by kernel_rfl) rfl rfl (Yl.field fo67_2 rfl) rfl ?_
  refine WD.tk 3 rfl (by kernel_rfl) rfl rfl (Yl.loadRo (T := 67) on65 rfl (by repeat constructor) rfl) rfl ?_
  refine WD.tk 4 rfl (by kernel_rfl) rfl rfl (Yl.loadRo (T := 5) on5 rfl (by repeat constructor) rfl) rfl ?_
  refine WD.tk 5 rfl (by kernel_rfl) rfl rfl (Yl.lookup (kv := Value.int .u8) (vv := ptV) (m := pm es) (z := .pointer none) keyU8 un65 zPC hE.pmk rfl rfl (u8_wf ha) (MReads.of (m := pm es) MapOf.ro (by repeat constructor))) rfl ?_
  rw [h1]
  dsimp only [Option.map_some, Option.getD_some, ptV]
  refine WD.tk 6 rfl (by kernel_rfl) rfl rfl (Yl.nilCheck rfl) rfl ?_
  refine WD.tk 7 rfl (by kernel_rfl) rfl rfl (Yl.loadNRo (T := 70) (cs := c.cells) (cs' := c.cells) ag70 rfl (by repeat constructor) (Nat.ble_eq_true_of_le (by rw [Ct.len hok]; omega)) (by rw [List.drop_zero, List.take_of_length_le (by rw [Ct.len hok]; omega)])) rfl ?_
  refine WD.one 8 (by kernel_rfl) ?_
  refine WO.to rfl rfl .no (To.alloc (cs := Ct.zero.cells) zr70 rfl) rfl (fun _ => ⟨_, (by repeat' constructor)⟩) ?_
  intro b4
  refine WD.one 9 (by kernel_rfl) ?_
  refine WO.sto rfl rfl .no (Sto.agg sz70 rfl rfl (by repeat constructor) c.ones (Ct.len hok) (by rfl) (putAll rfl)) ⟨_, (by repeat' constructor)⟩ ?_
  refine WD.done (by kernel_rfl) ?_
  refine WC.seq ?_
  refine WC.region ?_
  refine WL.y (Yl.field fo70_1 rfl) rfl ?_
  refine WL.y (Yl.loadNP (T := 70) (cs := c.cells) ag30 rfl (by repeat constructor) (by rw [Ct.len hok]; omega) (Ct.hasL hok)) rfl ?_
  refine WL.y (Yl.move rfl) rfl ?_
  refine WL.nil ?_
  refine WC.block ?_
  refine WC.loop (α := Nat × (Nat → Prop)) (fun p => [(0, .func (.yield l) #[] #[]), (2, .pointer (some ⟨b3, 0, none⟩)), (4, .pointer (some ⟨b4, 0, none⟩)), (27, .agg (c.has.map Value.bool).toArray), (28, .int .i64 (p.1 : Int))]) (fun p => [gstR g (c.to p.1).length p.2, blkR b4 70 c.cells, roR (blkR b3 5 [.int .u8 a])]) (fun p => p.1 ≤ 4) (fun p => 4 - p.1) (0, T0) (Nat.zero_le _) ⟨(by repeat' constructor), _, (by repeat' constructor)⟩ ?_
  rintro ⟨i, T⟩ hi
  dsimp only at hi ⊢
  refine WC.seq ?_
  refine WC.region ?_
  refine WL.y (Yl.lss rfl rfl) rfl ?_
  refine WL.nil ?_
  refine WC.seq ?_
  refine WC.condD rfl (fun g29 => ?_) (fun g29 => ?_)
  · refine WC.skip ?_
    refine WC.seq ?_
    refine WC.block ?_
    refine WC.seq ?_
    refine WC.region ?_
    have hi4 : i < 4 := by omega
    obtain ⟨hd, hb⟩ : ∃ hd, c.has[i]? = some hd := ⟨_, List.getElem?_eq_getElem (by rw [hok.hl]; exact hi4)⟩
    obtain ⟨k, hk⟩ : ∃ k0, c.ks[i]? = some k0 := ⟨_, List.getElem?_eq_getElem (by rw [hok.kl]; exact hi4)⟩
    have hnx := Ct.to_next hok hi4 hk hb
    refine WL.y (Yl.move rfl) rfl ?_
    refine WL.y (Yl.idx un30 sz4 on4 rfl rfl rfl (by omega) (mapB_at hb)) rfl ?_
    refine WL.y (Yl.assign rfl) rfl ?_
    refine WL.y (Yl.assign rfl) rfl ?_
    refine WL.nil ?_
    refine WC.seq ?_
    refine WC.drawAnyJ (Hs := [roR (blkR b3 5 [.int .u8 a]), blkR b4 70 c.cells]) mixed rfl ⟨_, (by repeat' constructor)⟩ ?_
    refine WJ.take 0 rfl (by kernel_rfl) (by kernel_rfl) (by kernel_rfl) rfl rfl (Yl.move rfl) rfl ?_
    refine WJ.take 1 rfl (by kernel_rfl) (by kernel_rfl) (by kernel_rfl) rfl rfl (Yl.move rfl) rfl ?_
    refine WJ.both (t := 33) rfl (fun g33 => ?_) (fun g33 => ?_)
    · refine WJ.takeOn 2 rfl (by kernel_rfl) (by kernel_rfl) (by kernel_rfl) rfl rfl rfl rfl (Yl.move rfl) rfl ?_
      refine WJ.takeOn 3 rfl (by kernel_rfl) (by kernel_rfl) (by kernel_rfl) rfl rfl rfl rfl (Yl.loadRo (T := 5) on5 rfl (by repeat constructor) rfl) rfl ?_
      refine WJ.takeOn 4 rfl (by kernel_rfl) (by kernel_rfl) (by kernel_rfl) rfl rfl rfl rfl (Yl.move rfl) rfl ?_
      refine WJ.takeOn 5 rfl (by kernel_rfl) (by kernel_rfl) (by kernel_rfl) rfl rfl rfl rfl (Yl.conv un3 un5 rfl (show IntKind.u8.wrap (i : Int) = (i : Int) by rw [IntKind.wrap_u8]; omega)) rfl ?_
      refine WJ.takeOn 6 rfl (by kernel_rfl) (by kernel_rfl) (by kernel_rfl) rfl rfl rfl rfl (Yl.build rfl (cs := [.int .u8 a, .int .u8 (i : Int)]) (fun _ => by kernel_rfl)) rfl ?_
      refine WJ.takeOn 7 rfl (by kernel_rfl) (by kernel_rfl) (by kernel_rfl) rfl rfl rfl rfl (Yl.move rfl) rfl ?_
      refine WJ.takeOn 8 rfl (by kernel_rfl) (by kernel_rfl) (by kernel_rfl) rfl rfl rfl rfl (Yl.field fo70_0 rfl) rfl ?_
      refine WJ.takeOn 9 rfl (by kernel_rfl) (by kernel_rfl) (by kernel_rfl) rfl rfl rfl rfl (Yl.indexA un33 sz32 rfl rfl rfl (by omega)) rfl ?_
      refine WJ.takeOn 10 rfl (by kernel_rfl) (by kernel_rfl) (by kernel_rfl) rfl rfl rfl rfl (Yl.loadNP (T := 70) (cs := c.cells) (cs' := k.cells) ag32 rfl (by repeat constructor) (by rw [Ct.len hok]; omega) (Ct.key' hok hk (by omega))) rfl ?_
      refine WJ.one 11 (by kernel_rfl) ?_
      obtain rfl : hd = true := g33
      refine WOJ.yield (xs := [.tmp 38, .tmp 42]) (j := (c.to i).length) rfl (.on rfl rfl) hy rfl rfl (show (ysK a c.devs)[(c.to i).length]? = some #[.agg #[.int .u8 a, .int .u8 (i : Int)], kyV k] by unfold ysK; rw [List.getElem?_map, Ct.at_yes hok hi4 hk hb]; rfl) (by repeat constructor) rfl (fun _ _ => ⟨_, (by repeat' constructor)⟩) ?_
      intro b43 T'
      refine WJ.takeOn 12 rfl (by kernel_rfl) (by kernel_rfl) (by kernel_rfl) rfl rfl rfl rfl (Yl.not rfl) rfl ?_
      refine WJ.take 13 rfl (by kernel_rfl) (by kernel_rfl) (by kernel_rfl) rfl rfl (Yl.pickT rfl rfl) rfl ?_
      refine WJ.done (by kernel_rfl) ?_
      refine WC.cond rfl (fun g45 => ?_) (fun g45 => ?_)
      · refine WC.ret ?_
        repeat (with_reducible (first | refine peelT ?_ | refine peelB ?_ | refine peelTX ?_ | refine peelBX ?_ | refine peelBN ?_ | refine peelBO rfl ?_))
        have hb : b43 = false := by simpa using g45
        subst hb
        simp only [Bool.false_eq_true, if_false]
        exact itStop (i := (c.to i).length) (.inr rfl) Tryz.results58 (by repeat constructor) (by rw [ysK_len]; exact (List.getElem?_eq_some_iff.1 (Ct.at_yes hok hi4 hk hb)).1)
      · refine WC.skip ?_
        refine WC.region ?_
        refine WL.y (Yl.add rfl rfl (IntWalk.i64_in _ (by omega))) rfl ?_
        refine WL.y (Yl.move rfl) rfl ?_
        refine WL.nil ?_
        have hb2 : b43 = true := by simpa using g45
        subst hb2
        simp only [if_true]
        have e : (c.to i).length + 1 = (c.to (i + 1)).length := by rw [hnx, if_pos rfl]; simp
        rw [e]
        exact ⟨rfl, (i + 1, T'), by dsimp only; omega, by dsimp only; omega, (by repeat' constructor), _, (by repeat' constructor)⟩
    · refine WJ.takeOff 2 rfl (by kernel_rfl) (by kernel_rfl) (by kernel_rfl) rfl rfl rfl rfl rfl rfl ?_
      refine WJ.takeOff 3 rfl (by kernel_rfl) (by kernel_rfl) (by kernel_rfl) rfl rfl rfl rfl rfl rfl ?_
      refine WJ.takeOff 4 rfl (by kernel_rfl) (by kernel_rfl) (by kernel_rfl) rfl rfl rfl rfl rfl rfl ?_
      refine WJ.takeOff 5 rfl (by kernel_rfl) (by kernel_rfl) (by kernel_rfl) rfl rfl rfl rfl rfl rfl ?_
      refine WJ.takeOff 6 rfl (by kernel_rfl) (by kernel_rfl) (by kernel_rfl) rfl rfl rfl rfl rfl rfl ?_
      refine WJ.takeOff 7 rfl (by kernel_rfl) (by kernel_rfl) (by kernel_rfl) rfl rfl rfl rfl rfl rfl ?_
      refine WJ.takeOff 8 rfl (by kernel_rfl) (by kernel_rfl) (by kernel_rfl) rfl rfl rfl rfl rfl rfl ?_
      refine WJ.takeOff 9 rfl (by kernel_rfl) (by kernel_rfl) (by kernel_rfl) rfl rfl rfl rfl rfl rfl ?_
      refine WJ.takeOff 10 rfl (by kernel_rfl) (by kernel_rfl) (by kernel_rfl) rfl rfl rfl rfl rfl rfl ?_
      refine WJ.one 11 (by kernel_rfl) ?_
      refine WOJ.off rfl rfl rfl rfl rfl rfl rfl ?_
      refine WJ.takeOff 12 rfl (by kernel_rfl) (by kernel_rfl) (by kernel_rfl) rfl rfl rfl rfl rfl rfl ?_
      refine WJ.take 13 rfl (by kernel_rfl) (by kernel_rfl) (by kernel_rfl) rfl rfl (Yl.pickF rfl rfl) rfl ?_
      refine WJ.know (t := 45) (b' := false) rfl (by first | rfl | (simp; done) | (simp; omega)) ?_
      refine WJ.done (by kernel_rfl) ?_
      refine WC.condF rfl (by first | rfl | (simp; done) | (simp; omega)) ?_
      refine WC.skip ?_
      refine WC.region ?_
      refine WL.y (Yl.add rfl rfl (IntWalk.i64_in _ (by omega))) rfl ?_
      refine WL.y (Yl.move rfl) rfl ?_
      refine WL.nil ?_
      have e : (c.to i).length = (c.to (i + 1)).length := by rw [hnx, g33]; simp
      rw [e]
      exact ⟨rfl, (i + 1, T), by dsimp only; omega, by dsimp only; omega, (by repeat' constructor), _, (by repeat' constructor)⟩
  · refine WC.exit ?_
    repeat (with_reducible (first | refine peelT ?_ | refine peelB ?_ | refine peelTX ?_ | refine peelBX ?_ | refine peelBN ?_ | refine peelBO rfl ?_))
    have hi4 : i = 4 := by omega
    subst hi4
    have hx : (c.to 4).length = (ysK a c.devs).length := by rw [ysK_len, Ct.to_end hok]
    rw [hx]
    exact itEnd (.inl rfl) Tryz.results58 (by repeat constructor)
theorem keys1_iter (b b2 b3 : Nat) (ao : Option Addr) (cp mb : Nat) (acc : Int) (own : List Ky) (es : Es) (hE : EG es) (a : Int) (ha : 0 ≤ a ∧ a < 256) (w : World) (hA : OK w (fpL ([roR (blkR b2 25 [ptV b]), roR (blkR b3 5 [.int .u8 a]), roR (blkR b 67 [.int .u8 acc, .slice ao own.length cp, .map (some mb)]), roR (rwK (.slice ao own.length cp) own.length own), roR (mapR (Value.int .u8) ptV mb (pm es)), roR (allR (es.map ctR))])) ([roR (blkR b2 25 [ptV b]), roR (blkR b3 5 [.int .u8 a]), roR (blkR b 67 [.int .u8 acc, .slice ao own.length cp, .map (some mb)]), roR (rwK (.slice ao own.length cp) own.length own), roR (mapR (Value.int .u8) ptV mb (pm es)), roR (allR (es.map ctR))]) w) :
    Iter Tryz.prog 58 ([.pointer (some ⟨b2, 0, none⟩), .pointer (some ⟨b3, 0, none⟩)] : List Value).toArray (fpL ([roR (blkR b2 25 [ptV b]), roR (blkR b3 5 [.int .u8 a]), roR (blkR b 67 [.int .u8 acc, .slice ao own.length cp, .map (some mb)]), roR (rwK (.slice ao own.length cp) own.length own), roR (mapR (Value.int .u8) ptV mb (pm es)), roR (allR (es.map ctR))])).rd (ysK a (devsAt (pj es) a)) w := by
  unfold devsAt
  rcases es_cases es a with ⟨h1, h2⟩ | ⟨j, nb, c, hj, h1, h2⟩
  · rw [h2]
    exact keys1_no b b2 b3 ao cp mb acc own es hE a ha h1 w hA
  · rw [h2]
    exact keys1_yes b b2 b3 ao cp mb acc own es hE a ha j nb c hj h1 w hA
theorem keys_iterW (b b2 b3 : Nat) (ao : Option Addr) (cp mb : Nat) (acc : Int) (own : List Ky) (es : Es) (hE : EG es) (a : Int) (ha : 0 ≤ a ∧ a < 256) :
    IterW Tryz.prog 58 ([.pointer (some ⟨b2, 0, none⟩), .pointer (some ⟨b3, 0, none⟩)] : List Value).toArray (keyL b b2 b3 ao cp mb acc own es a) (ysK a (devsAt (pj es) a)) (keyL b b2 b3 ao cp mb acc own es a) (fun _ => keyL b b2 b3 ao cp mb acc own es a) :=
  iterW_of_iter fun W hW => keys1_iter b b2 b3 ao cp mb acc own es hE a ha W hW
theorem keys_any (b : Nat) (a : Int) (w : World) (hw : OK w (fpL []) [] w) :
    Fn Tryz.prog 23 [.pointer (some ⟨b, 0, none⟩), .int .u8 a] [] w (fun _ : Nat × Nat => True) (fun y => .func (.func 58) #[] #[.pointer (some ⟨y.1, 0, none⟩), .pointer (some ⟨y.2, 0, none⟩)]) (fun y => [blkR y.1 25 [ptV b], blkR y.2 5 [.int .u8 a]]) := by
  refine enterF Tryz.func23 rfl Tryz.ntmps23 rfl hw ?_
  refine WC.seq ?_
  refine WC.region ?_
  refine WL.to (To.box (cs := [ptV b]) rfl rfl) rfl ?_
  intro b2
  refine WL.to (To.box (cs := [.int .u8 a]) rfl rfl) rfl ?_
  intro b3
  refine WL.y (Yl.assign rfl) rfl ?_
  refine WL.nil ?_
  refine WC.seq ?_
  refine WC.region ?_
  refine WL.y (Yl.makeFunc (xs := []) (ys := [.tmp 2, .tmp 3]) rfl rfl) rfl ?_
  refine WL.y (Yl.assign rfl) rfl ?_
  refine WL.nil ?_
  refine WC.ret ?_
  repeat (with_reducible (first | refine peelT ?_ | refine peelB ?_ | refine peelTX ?_ | refine peelBX ?_ | refine peelBN ?_ | refine peelBO rfl ?_))
  exact ret1 (.inr rfl) Tryz.results23 rfl fun w' h => ⟨(b2, b3), trivial, rfl, h.sub (by repeat' constructor)⟩
end Go.Proofs.YtcplbkbimpiioaaGreatDoor

namespace Go.Proofs.YtcplbkbimpiioaaGreatDoor
open Go Go.RowKit
theorem kysAt_devs (l : Cs) (a : Int) : (devsAt l a).map (·.2) = kysAt l a := by
  unfold devsAt kysAt
  cases mget l a with
  | none => rfl
  | some c => exact Ct.devs_kys c
theorem EG.pjk {es : Es} (h : EG es) {a : Int} {c : Ct} (hc : mget (pj es) a = some c) : c.ok := by
  have := (mget_some h.nd).1 hc
  obtain ⟨e, he, h2⟩ := List.mem_map.1 this
  cases h2
  exact h.ct e he
theorem kysAt_le {es : Es} (h : EG es) (a : Int) : (kysAt (pj es) a).length ≤ 4 := by
  unfold kysAt
  cases hc : mget (pj es) a with
  | none => exact Nat.zero_le _
  | some c => exact Ct.kys_le (h.pjk hc)
theorem ysK_at {a : Int} {l : List (Nat × Ky)} {i : Nat} {x : Array Value} (h : (ysK a l)[i]? = some x) : ∃ p, l[i]? = some p ∧ x = #[.agg #[.int .u8 a, .int .u8 (p.1 : Int)], kyV p.2] := by
  unfold ysK at h
  rw [List.getElem?_map] at h
  obtain ⟨p, h1, h2⟩ := Option.map_eq_some_iff.1 h
  exact ⟨p, h1, h2.symm⟩
/-- What Number tells: the text, and an error. -/
def numT (acc : Int) (own : List Ky) (a : Int) (l : List Ky) : List Int := if l.length = 0 then [] else numF (digF acc own) (digF a l)
def numE (l : List Ky) : Int := if l.length = 0 then 4 else 0
set_option maxHeartbeats 1600000 in
set_option maxRecDepth 100000 in
theorem numB_any (b : Nat) (ao : Option Addr) (cp mb : Nat) (acc : Int) (own : List Ky) (ho : own.length ≤ 12) (es : Es) (hE : EG es) (a : Int) (ha : 0 ≤ a ∧ a < 256) (w : World) (hw : OK w (fpL (bkL b ao cp mb acc own es)) (bkL b ao cp mb acc own es) w) :
    Fn Tryz.prog 12 [.pointer (some ⟨b, 0, none⟩), .int .u8 a] (bkL b ao cp mb acc own es) w (fun _ : Unit => True) (fun _ => .tuple #[.string (strOfNums (numT acc own a (kysAt (pj es) a))), .int .i64 (numE (kysAt (pj es) a))]) (fun _ => bkL b ao cp mb acc own es) := by
  have hle := kysAt_le hE a
  have hkd := kysAt_devs (pj es) a
  obtain ⟨K, hK⟩ : ∃ K, kysAt (pj es) a = K := ⟨_, rfl⟩
  rw [hK] at hle hkd ⊢
  refine enterM Tryz.func12 rfl Tryz.ntmps12 rfl hw ?_
  refine WC.seq ?_
  refine WC.region ?_
  refine WL.y (Yl.assign rfl) rfl ?_
  refine WL.y (Yl.assign rfl) rfl ?_
  refine WL.nil ?_
  refine WC.seq ?_
  refine WC.seq ?_
  refine WC.region ?_
  refine WL.y (Yl.move rfl) rfl ?_
  refine WL.y (Yl.nilEq un25 rfl rfl) rfl ?_
  refine WL.know (t := 10) (b' := false) rfl (by first | rfl | (simp; done) | (simp; omega)) ?_
  refine WL.nil ?_
  refine WC.condF rfl (by first | rfl | (simp; done) | (simp; omega)) ?_
  refine WC.skip ?_
  refine WC.seq ?_
  refine WC.region ?_
  refine WL.to (To.alloc (cs := [.slice none 0 0]) zr22 rfl) rfl ?_
  intro b6
  refine WL.nil ?_
  refine WC.seq ?_
  refine WC.seq ?_
  refine WC.region ?_
  refine WL.y (Yl.move rfl) rfl ?_
  refine WL.y (Yl.move rfl) rfl ?_
  refine WL.callC (xs := [.tmp 11, .tmp 12]) (cap := []) rfl rfl en23 (by repeat' constructor) (fun w hw => keys_any b a w hw.left.here) rfl ?_
  rintro ⟨b2, b3⟩ -
  dsimp only [List.cons_append, List.nil_append]
  refine WL.nil ?_
  refine WC.block ?_
  refine WC.view (fun w h => h.addNil 32 32) ?_
  refine WC.rangeW (α := Option Addr × Nat) (A := keyL b b2 b3 ao cp mb acc own es a) (E := keyL b b2 b3 ao cp mb acc own es a) (Ex := fun _ => keyL b b2 b3 ao cp mb acc own es a) (lb := [.pointer (some ⟨b2, 0, none⟩), .pointer (some ⟨b3, 0, none⟩)]) (xs := ysK a (devsAt (pj es) a)) (fun i s => [blkR b6 22 [.slice s.1 (K.take i).length s.2], rwK (.slice s.1 (K.take i).length s.2) (K.take i).length (K.take i)]) (fun _ _ => True) (none, 0) rfl en58 (ysK_size a _) rfl (by repeat' constructor) (keys_iterW b b2 b3 ao cp mb acc own es hE a ha) rfl (fun _ => rfl) trivial (by repeat' constructor) ?_ ?_
  · rintro l2 i y ⟨a6, c6⟩ hy _ W
    obtain ⟨p, hp, rfl⟩ := ysK_at hy
    have hk : K[i]? = some p.2 := by rw [← hkd, List.getElem?_map, hp]; rfl
    have hnx := take_snocK hk
    have hil := (List.getElem?_eq_some_iff.1 hk).1
    have hl1 : (K.take i).length = i := by rw [List.length_take]; omega
    have hl2 : (K.take (i + 1)).length = i + 1 := by rw [List.length_take]; omega
    show WC _ _ _ ((15, kyV p.2) :: (14, .agg #[.int .u8 a, .int .u8 (p.1 : Int)]) :: _) _ _
    refine WC.region ?_
    refine WL.to (To.alloc (cs := ints .u8 (List.replicate 32 0)) zr32 rfl) rfl ?_
    intro b8
    refine WL.sto (Sto.agg sz32 rfl rfl (by repeat constructor) p.2.ones p.2.clen (by rfl) (putAll rfl)) (fun _ h => nomatch h) ?_
    refine WL.nil ?_
    repeat (with_reducible (first | refine peelT ?_ | refine peelB ?_ | refine peelTX ?_ | refine peelBX ?_ | refine peelBN ?_ | refine peelBO rfl ?_))
    refine fun W2 => ?_
    refine WC.block ?_
    refine WC.region ?_
    refine WL.y (Yl.load on22 rfl (by repeat constructor) (by rfl)) rfl ?_
    refine WL.y (Yl.loadN (T := 32) (cs := p.2.cells) (cs' := p.2.cells) ag32 rfl (by repeat constructor) (Nat.ble_eq_true_of_le (by rw [p.2.clen]; omega)) (by rw [List.drop_zero, List.take_of_length_le (by rw [p.2.clen]; omega)])) rfl ?_
    refine WL.to (To.buildSlice (vs := [kyV p.2]) un22 zs32 rfl rfl (fun v hv => by rw [List.mem_singleton] at hv; subst hv; unfold kyV; simp [Value.cells, Ky.clen]) (by decide) (by decide)) rfl ?_
    intro b18
    refine WL.to (To.append sl22 rfl rfl (by repeat constructor) (Reads.of (RdOf.blk (size := 32) (n := 1) (cs := flat [kyV p.2]) (cs' := vcs kyV [p.2]) (Nat.le_refl _) (by unfold maxLen; omega) (by simp [flat, kyV, Value.cells, Ky.clen]) (by rw [List.drop_zero, List.take_of_length_le (by simp [flat, kyV, Value.cells, Ky.clen])]; rfl)) (by repeat constructor)) (vtK.ones _) (show (K.take i).length + 1 = (K.take (i + 1)).length by omega) (show vcs kyV (K.take i) ++ vcs kyV [p.2] = vcs kyV (K.take (i + 1)) by rw [hnx, vcs_app]) (by unfold maxLen; omega) (by omega)) rfl ?_
    rintro ⟨⟨ao19, c19⟩, hc19⟩
    dsimp only at hc19 ⊢
    refine WL.sto (Sto.one sz22 rfl rfl (by repeat constructor) rfl (by rfl) (by rfl)) (fun _ h => nomatch h) ?_
    refine WL.nil ?_
    repeat (with_reducible (first | refine peelT ?_ | refine peelB ?_ | refine peelTX ?_ | refine peelBX ?_ | refine peelBN ?_ | refine peelBO rfl ?_))
    exact ⟨[blkR b6 22 [.slice ao19 (K.take (i + 1)).length c19], rwK (.slice ao19 (K.take (i + 1)).length c19) (K.take (i + 1)).length (K.take (i + 1))], _, (by repeat' constructor), (ao19, c19), trivial, rfl⟩
  · rintro ⟨a6, c6⟩ D -
    rw [ysK_len, show (devsAt (pj es) a).length = K.length by rw [← hkd, List.length_map], List.take_length]
    dsimp only [keyL, List.cons_append, List.nil_append]
    refine WC.seq ?_
    refine WC.seq ?_
    refine WC.region ?_
    refine WL.y (Yl.load on22 rfl (by repeat constructor) (by rfl)) rfl ?_
    refine WL.y (Yl.len un22 rfl) rfl ?_
    refine WL.y (Yl.eql rfl rfl) rfl ?_
    refine WL.nil ?_
    refine WC.condD rfl (fun g22 => ?_) (fun g22 => ?_)
    · refine WC.seq ?_
      refine WC.region ?_
      refine WL.y (Yl.assign rfl) rfl ?_
      refine WL.y (Yl.assign rfl) rfl ?_
      refine WL.nil ?_
      refine WC.ret ?_
      repeat (with_reducible (first | refine peelT ?_ | refine peelB ?_ | refine peelTX ?_ | refine peelBX ?_ | refine peelBN ?_ | refine peelBO rfl ?_))
      have h0 : K.length = 0 := by omega
      refine retM.of (.cons (by repeat constructor) .nil) ?_
      exact ret2 (.inr rfl) Tryz.results12 rfl rfl fun w' h => ⟨(), trivial, by unfold numT numE; rw [if_pos h0, if_pos h0]; rfl, h.sub (by repeat' constructor)⟩
    · refine WC.skip ?_
      refine WC.seq ?_
      refine WC.drawAny (Hs := [blkR b 67 [.int .u8 acc, .slice ao own.length cp, .map (some mb)], blkR b6 22 [.slice a6 K.length c6], rwK (.slice ao own.length cp) own.length own, rwK (.slice a6 K.length c6) K.length K]) mixed (by kernel_rfl) ⟨_, (by repeat' constructor)⟩ ?_
      refine WD.tk 0 rfl (by kernel_rfl) rfl rfl (Yl.move rfl) rfl ?_
      refine WD.tk 1 rfl (by kernel_rfl) rfl rfl (Yl.nilCheck rfl) rfl ?_
      refine WD.tk 2 rfl (by kernel_rfl) rfl rfl (Yl.field fo67_0 rfl) rfl ?_
      refine WD.tk 3 rfl (by kernel_rfl) rfl rfl (Yl.load on5 rfl (by repeat constructor) (by rfl)) rfl ?_
      refine WD.tk 4 rfl (by kernel_rfl) rfl rfl (Yl.move rfl) rfl ?_
      refine WD.tk 5 rfl (by kernel_rfl) rfl rfl (Yl.nilCheck rfl) rfl ?_
      refine WD.tk 6 rfl (by kernel_rfl) rfl rfl (Yl.field fo67_1 rfl) rfl ?_
      refine WD.tk 7 rfl (by kernel_rfl) rfl rfl (Yl.load on22 rfl (by repeat constructor) (by rfl)) rfl ?_
      refine WD.tk 9 rfl (by kernel_rfl) rfl rfl (Yl.move rfl) rfl ?_
      refine WD.tk 10 rfl (by kernel_rfl) rfl rfl (Yl.load on22 rfl (by repeat constructor) (by rfl)) rfl ?_
      refine WD.one 8 (by kernel_rfl) ?_
      refine WO.callC (xs := [.tmp 26, .tmp 30]) (cap := []) rfl .no rfl rfl en31 (by repeat' constructor) (fun w hw => digits_any acc (.slice ao own.length cp) own (by omega) w (hw.src (A := []) (r := rwK (.slice ao own.length cp) own.length own) RdOf.own (by repeat constructor)) hw.left.here) rfl (fun _ => ⟨_, (by repeat' constructor)⟩) ?_
      rintro ⟨⟩ -
      refine WD.one 11 (by kernel_rfl) ?_
      refine WO.callC (xs := [.tmp 32, .tmp 33]) (cap := []) rfl .no rfl rfl en31 (by repeat' constructor) (fun w hw => digits_any a (.slice a6 K.length c6) K (by omega) w (hw.src (A := []) (r := rwK (.slice a6 K.length c6) K.length K) RdOf.own (by repeat constructor)) hw.left.here) rfl (fun _ => ⟨_, (by repeat' constructor)⟩) ?_
      rintro ⟨⟩ -
      refine WD.one 12 (by kernel_rfl) ?_
      refine WO.callC (xs := [.tmp 31, .tmp 34]) (cap := []) rfl .no rfl rfl en30 (by repeat' constructor) (fun w hw => number_any (digF acc own) (digF a K) (digF_dig _ _).bytes (digF_dig _ _).bytes (by rw [digF_len, digF_len]; omega) w hw.left.here) rfl (fun _ => ⟨_, (by repeat' constructor)⟩) ?_
      rintro ⟨⟩ -
      refine WD.tk 13 rfl (by kernel_rfl) rfl rfl (Yl.assign rfl) rfl ?_
      refine WD.tk 14 rfl (by kernel_rfl) rfl rfl (Yl.assign rfl) rfl ?_
      refine WD.done (by kernel_rfl) ?_
      refine WC.ret ?_
      repeat (with_reducible (first | refine peelT ?_ | refine peelB ?_ | refine peelTX ?_ | refine peelBX ?_ | refine peelBN ?_ | refine peelBO rfl ?_))
      have h0 : ¬ K.length = 0 := by omega
      refine retM.of (.cons (by repeat constructor) .nil) ?_
      exact ret2 (.inr rfl) Tryz.results12 rfl rfl fun w' h => ⟨(), trivial, by unfold numT numE; rw [if_neg h0, if_neg h0], h.sub (by repeat' constructor)⟩
theorem Yl.sNeT {c : Cx} {env : Env} {ds : List Deferred} {H : List Res} {dst : Option Tmp} {ty : TypeId} {pos : String} {af : Array Edge} {g : Option (Nat × Bool)} {t t2 : TypeId} {x y : Operand} {xs ys : List Int} (h1 : Bytes xs) (h2 : Bytes ys) (hx : ev env x = some (.string (strOfNums xs))) (hy : ev env y = some (.string (strOfNums ys))) : Yl c env ds H ⟨dst, .binOp .neq t x y t2, ty, pos, af, g⟩ (.bool (!decide (xs = ys))) := fun a w ha _ => by
  rw [← bytesOf_eq h1 h2]
  simp [execOp, ha.ev hx, ha.ev hy, eqGuard, binOp, Op.stringOp, Go.Lib.strOfNums_toList]
/-- What Verify answers. -/
def verE (l : List Ky) (ts want : List Int) : Int := if l.length = 0 then 4 else if bareF ts = want then 0 else 6
def setSt (l : Cs) (a s : Int) : Cs := match mget l a with
  | none => l
  | some c => mput l a { c with st := s }
def verC (l : Cs) (a : Int) (ts want : List Int) : Cs := if (kysAt l a).length = 0 then l else if bareF ts = want then setSt l a 2 else l
theorem bareF_by {bs : List Int} (h : Bytes bs) : Bytes (bareF bs) := fun x hx => h x (List.mem_filter.1 hx).1
theorem numT_by (acc : Int) (own : List Ky) (a : Int) (l : List Ky) : Bytes (numT acc own a l) := by
  unfold numT
  split
  · exact fun x hx => nomatch hx
  · exact (numF_dig (digF_dig _ _) (digF_dig _ _)).bytes
set_option maxHeartbeats 1600000 in
set_option maxRecDepth 100000 in
theorem verify_any (m : Int) (b : Nat) (ao : Option Addr) (cp mb : Nat) (acc : Int) (own : List Ky) (ho : own.length ≤ 12) (es : Es) (hE : EG es) (a : Int) (ha : 0 ≤ a ∧ a < 256) (ts : List Int) (hB : Bytes ts) (hl : ts.length ≤ 1000000) (w : World) (hm : RdS w (fpL (bkL b ao cp mb acc own es)) mxV 1 1 [.int .i64 m]) (hw : OK w (fpL (bkL b ao cp mb acc own es)) (bkL b ao cp mb acc own es) w) :
    Fn Tryz.prog 10 [.pointer (some ⟨b, 0, none⟩), .int .u8 a, .string (strOfNums ts)] (bkL b ao cp mb acc own es) w (fun es' : Es => pj es' = verC (pj es) a ts (numT acc own a (kysAt (pj es) a)) ∧ EG es') (fun _ => .int .i64 (verE (kysAt (pj es) a) ts (numT acc own a (kysAt (pj es) a)))) (fun es' => bkL b ao cp mb acc own es') := by
  have hby := numT_by acc own a (kysAt (pj es) a)
  unfold verC verE
  refine enterF Tryz.func10 rfl Tryz.ntmps10 rfl hw ?_
  refine WC.seq ?_
  refine WC.region ?_
  refine WL.y (Yl.assign rfl) rfl ?_
  refine WL.nil ?_
  refine WC.seq ?_
  refine WC.region ?_
  refine WL.y (Yl.move rfl) rfl ?_
  refine WL.y (Yl.move rfl) rfl ?_
  refine WL.callC (xs := [.tmp 10, .tmp 11]) (cap := []) rfl rfl en12 (by repeat' constructor) (fun w hw => numB_any b ao cp mb acc own ho es hE a ha w hw.left.here) rfl ?_
  rintro ⟨⟩ -
  dsimp only [List.cons_append, List.nil_append]
  refine WL.y (Yl.move rfl) rfl ?_
  refine WL.y (Yl.extract rfl rfl) rfl ?_
  refine WL.y (Yl.extract rfl rfl) rfl ?_
  refine WL.y (Yl.assign rfl) rfl ?_
  refine WL.y (Yl.assign rfl) rfl ?_
  refine WL.nil ?_
  refine WC.seq ?_
  refine WC.block ?_
  refine WC.seq ?_
  refine WC.region ?_
  refine WL.y (Yl.move rfl) rfl ?_
  refine WL.y (Yl.neq rfl rfl) rfl ?_
  refine WL.y (Yl.assign rfl) rfl ?_
  refine WL.nil ?_
  refine WC.condD rfl (fun g15 => ?_) (fun g15 => ?_)
  · refine WC.seq ?_
    refine WC.region ?_
    refine WL.y (Yl.move rfl) rfl ?_
    refine WL.y (Yl.assign rfl) rfl ?_
    refine WL.nil ?_
    refine WC.ret ?_
    repeat (with_reducible (first | refine peelT ?_ | refine peelB ?_ | refine peelTX ?_ | refine peelBX ?_ | refine peelBN ?_ | refine peelBO rfl ?_))
    have h0 : (kysAt (pj es) a).length = 0 := by
      rcases Nat.eq_zero_or_pos (kysAt (pj es) a).length with h0 | h0
      · exact h0
      · exact absurd (show numE (kysAt (pj es) a) = 0 by unfold numE; rw [if_neg (by omega)]) g15
    refine ret1 (.inr rfl) Tryz.results10 rfl fun w' h => ⟨es, ⟨by rw [if_pos h0], hE⟩, by unfold numE; rw [if_pos h0, if_pos h0]; rfl, h.sub (by repeat' constructor)⟩
  · refine WC.seq ?_
    have h0 : ¬ (kysAt (pj es) a).length = 0 := fun h0 => g15 (by unfold numE; rw [if_pos h0]; decide)
    refine WC.region ?_
    refine WL.y (Yl.move rfl) rfl ?_
    refine WL.callC (xs := [.tmp 20, _, _]) (cap := []) rfl rfl en29 (by repeat' constructor) (fun w hw => replace_any ts hB hl m w (hw.srcS (A := []) hm) hw.left.here) rfl ?_
    rintro ⟨⟩ -
    refine WL.y (Yl.move rfl) rfl ?_
    refine WL.y (Yl.sNeT (bareF_by hB) hby rfl rfl) rfl ?_
    refine WL.y (Yl.assign rfl) rfl ?_
    refine WL.nil ?_
    refine WC.cond rfl (fun g19 => ?_) (fun g19 => ?_)
    · refine WC.seq ?_
      refine WC.region ?_
      refine WL.y (Yl.assign rfl) rfl ?_
      refine WL.nil ?_
      refine WC.ret ?_
      repeat (with_reducible (first | refine peelT ?_ | refine peelB ?_ | refine peelTX ?_ | refine peelBX ?_ | refine peelBN ?_ | refine peelBO rfl ?_))
      have h1 : ¬ bareF ts = numT acc own a (kysAt (pj es) a) := by simpa using g19
      refine ret1 (.inr rfl) Tryz.results10 rfl fun w' h => ⟨es, ⟨by rw [if_neg h0, if_neg h1], hE⟩, by rw [if_neg h0, if_neg h1], h.sub (by repeat' constructor)⟩
    · refine WC.skip ?_
      refine WC.seq ?_
      have h1 : bareF ts = numT acc own a (kysAt (pj es) a) := by simpa using g19
      obtain ⟨j, nb, c, hj, p1, p2⟩ : ∃ (j nb : Nat) (c : Ct), es[j]? = some (a, nb, c) ∧ mget (pm es) a = some nb ∧ mget (pj es) a = some c := by
        rcases es_cases es a with ⟨_, h2⟩ | h2
        · exact absurd (show (kysAt (pj es) a).length = 0 by unfold kysAt; rw [h2]; rfl) h0
        · exact h2
      have hok : c.ok := hE.ct _ (List.mem_of_getElem? hj)
      have hjl := (List.getElem?_eq_some_iff.1 hj).1
      refine WC.region ?_
      refine WL.y (Yl.move rfl) rfl ?_
      refine WL.y (Yl.nilCheck rfl) rfl ?_
      refine WL.y (Yl.field fo67_2 rfl) rfl ?_
      refine WL.y (Yl.load on65 rfl (by repeat constructor) (by rfl)) rfl ?_
      refine WL.y (Yl.move rfl) rfl ?_
      refine WL.y (Yl.lookup (kv := Value.int .u8) (vv := ptV) (m := pm es) (z := .pointer none) keyU8 un65 zPC hE.pmk rfl rfl (u8_wf ha) (MReads.of (m := pm es) MapOf.own (by repeat constructor))) rfl ?_
      rw [p1]
      dsimp only [Option.map_some, Option.getD_some, ptV]
      refine WL.view (fun w h => h.allOut (f := ctR) (by repeat constructor) hj) ?_
      refine WL.y (Yl.nilCheck rfl) rfl ?_
      refine WL.y (Yl.field fo70_2 rfl) rfl ?_
      refine WL.sto (Sto.oneP (T := 70) (cs := c.cells) sz5 rfl rfl (by repeat constructor) rfl (by rw [Ct.len hok]; omega) (Ct.setSt hok 2)) (fun _ h => nomatch h) ?_
      refine WL.nil ?_
      refine WC.seq ?_
      refine WC.region ?_
      refine WL.y (Yl.assign rfl) rfl ?_
      refine WL.nil ?_
      refine WC.ret ?_
      repeat (with_reducible (first | refine peelT ?_ | refine peelB ?_ | refine peelTX ?_ | refine peelBX ?_ | refine peelBN ?_ | refine peelBO rfl ?_))
      have hs := hE.set hj (c' := { c with st := 2 }) ⟨hok.kl, hok.hl⟩
      refine ret1 (.inr rfl) Tryz.results10 rfl fun w' h => ⟨es.set j (a, nb, { c with st := 2 }), ⟨by rw [if_neg h0, if_pos h1, hs.2]; unfold setSt; rw [p2], hs.1⟩, by rw [if_neg h0, if_pos h1], ?_⟩
      rw [← pm_same (c' := { c with st := 2 }) hj] at h
      exact (OK.allIn (f := ctR) (l := es) (i := j) (x := (a, nb, { c with st := 2 })) h (by repeat' constructor) hjl).sub (by repeat' constructor)
set_option maxRecDepth 100000 in
theorem accept_any (b : Nat) (ao : Option Addr) (cp mb : Nat) (acc : Int) (own : List Ky) (es : Es) (hE : EG es) (a : Int) (ha : 0 ≤ a ∧ a < 256) (w : World) (hw : OK w (fpL (bkL b ao cp mb acc own es)) (bkL b ao cp mb acc own es) w) :
    Fn Tryz.prog 15 [.pointer (some ⟨b, 0, none⟩), .int .u8 a] (bkL b ao cp mb acc own es) w (fun es' : Es => pj es' = (if stOf (pj es) a = 3 then setSt (pj es) a 1 else pj es) ∧ EG es') (fun _ => .int .i64 (if stOf (pj es) a = 3 then 0 else 6)) (fun es' => bkL b ao cp mb acc own es') := by
  refine enterF Tryz.func15 rfl Tryz.ntmps15 rfl hw ?_
  refine WC.seq ?_
  refine WC.region ?_
  refine WL.y (Yl.assign rfl) rfl ?_
  refine WL.nil ?_
  refine WC.seq ?_
  refine WC.block ?_
  refine WC.seq ?_
  refine WC.region ?_
  refine WL.y (Yl.move rfl) rfl ?_
  refine WL.y (Yl.nilEq un25 rfl rfl) rfl ?_
  refine WL.know (t := 7) (b' := false) rfl (by first | rfl | (simp; done) | (simp; omega)) ?_
  refine WL.y (Yl.assign rfl) rfl ?_
  refine WL.nil ?_
  refine WC.condF rfl (by first | rfl | (simp; done) | (simp; omega)) ?_
  refine WC.seq ?_
  refine WC.region ?_
  refine WL.y (Yl.move rfl) rfl ?_
  refine WL.y (Yl.move rfl) rfl ?_
  refine WL.callC (xs := [.tmp 9, .tmp 10]) (cap := []) rfl rfl en22 (by repeat' constructor) (fun w hw => state_any b ao cp mb acc own es hE a ha w hw.left.here) rfl ?_
  rintro ⟨⟩ -
  dsimp only [List.cons_append, List.nil_append]
  refine WL.y (Yl.neq rfl rfl) rfl ?_
  refine WL.y (Yl.assign rfl) rfl ?_
  refine WL.nil ?_
  refine WC.condD rfl (fun g8 => ?_) (fun g8 => ?_)
  · refine WC.seq ?_
    refine WC.region ?_
    refine WL.y (Yl.assign rfl) rfl ?_
    refine WL.nil ?_
    refine WC.ret ?_
    repeat (with_reducible (first | refine peelT ?_ | refine peelB ?_ | refine peelTX ?_ | refine peelBX ?_ | refine peelBN ?_ | refine peelBO rfl ?_))
    refine ret1 (.inr rfl) Tryz.results15 rfl fun w' h => ⟨es, ⟨by rw [if_neg g8], hE⟩, by rw [if_neg g8], h.sub (by repeat' constructor)⟩
  · refine WC.skip ?_
    refine WC.seq ?_
    have h3 : stOf (pj es) a = 3 := by simpa using g8
    obtain ⟨j, nb, c, hj, p1, p2⟩ : ∃ (j nb : Nat) (c : Ct), es[j]? = some (a, nb, c) ∧ mget (pm es) a = some nb ∧ mget (pj es) a = some c := by
      rcases es_cases es a with ⟨_, h2⟩ | h2
      · rw [show stOf (pj es) a = 0 by unfold stOf; rw [h2]; rfl] at h3
        cases h3
      · exact h2
    have hok : c.ok := hE.ct _ (List.mem_of_getElem? hj)
    have hjl := (List.getElem?_eq_some_iff.1 hj).1
    refine WC.region ?_
    refine WL.y (Yl.move rfl) rfl ?_
    refine WL.y (Yl.nilCheck rfl) rfl ?_
    refine WL.y (Yl.field fo67_2 rfl) rfl ?_
    refine WL.y (Yl.load on65 rfl (by repeat constructor) (by rfl)) rfl ?_
    refine WL.y (Yl.move rfl) rfl ?_
    refine WL.y (Yl.lookup (kv := Value.int .u8) (vv := ptV) (m := pm es) (z := .pointer none) keyU8 un65 zPC hE.pmk rfl rfl (u8_wf ha) (MReads.of (m := pm es) MapOf.own (by repeat constructor))) rfl ?_
    rw [p1]
    dsimp only [Option.map_some, Option.getD_some, ptV]
    refine WL.view (fun w h => h.allOut (f := ctR) (by repeat constructor) hj) ?_
    refine WL.y (Yl.nilCheck rfl) rfl ?_
    refine WL.y (Yl.field fo70_2 rfl) rfl ?_
    refine WL.sto (Sto.oneP (T := 70) (cs := c.cells) sz5 rfl rfl (by repeat constructor) rfl (by rw [Ct.len hok]; omega) (Ct.setSt hok 1)) (fun _ h => nomatch h) ?_
    refine WL.nil ?_
    refine WC.seq ?_
    refine WC.region ?_
    refine WL.y (Yl.assign rfl) rfl ?_
    refine WL.nil ?_
    refine WC.ret ?_
    repeat (with_reducible (first | refine peelT ?_ | refine peelB ?_ | refine peelTX ?_ | refine peelBX ?_ | refine peelBN ?_ | refine peelBO rfl ?_))
    have hs := hE.set hj (c' := { c with st := 1 }) ⟨hok.kl, hok.hl⟩
    refine ret1 (.inr rfl) Tryz.results15 rfl fun w' h => ⟨es.set j (a, nb, { c with st := 1 }), ⟨by rw [if_pos h3, hs.2]; unfold setSt; rw [p2], hs.1⟩, by rw [if_pos h3], ?_⟩
    rw [← pm_same (c' := { c with st := 1 }) hj] at h
    exact (OK.allIn (f := ctR) (l := es) (i := j) (x := (a, nb, { c with st := 1 })) h (by repeat' constructor) hjl).sub (by repeat' constructor)
end Go.Proofs.YtcplbkbimpiioaaGreatDoor
