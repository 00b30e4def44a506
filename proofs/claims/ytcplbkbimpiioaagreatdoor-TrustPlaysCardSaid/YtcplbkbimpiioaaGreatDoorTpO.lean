/- Keys, devices and accounts, put: the walks. -/
import Derived.Test.YtcplbkbimpiioaaGreatDoorTpE
import Derived.Test.YtcplbkbimpiioaaGreatDoorLibMk
namespace Go.Proofs.YtcplbkbimpiioaaGreatDoor
open Go Go.RowKit
theorem mnyOk {lim : Int} {bs : List Int} {most : Int} {n : Nat} (h1 : (n : Int) ≤ most) (h2 : (n : Int) < 65536) (h : (bs.length : Int) + 2 ≤ lim) : mny lim (bs, false) most n = (bs ++ be n 2, false) := by
  unfold mny
  have e : decide ((if (65535 : Int) < most then 65535 else most) < (n : Int)) = false := by
    simp only [decide_eq_false_iff_not]; split <;> omega
  rw [e, Bool.or_false, IntWalk.u16_in _ (by omega)]
  exact pt_ok (by rw [be_len]; omega)
theorem fix1 {w : World} {T : Pm} {v0 : Value} {c0 : List Int} (h : RdS w T v0 1 c0.length (ints .u8 c0)) : ∀ (i : Nat) (v : Value) (c : List Int), [v0][i]? = some v → [c0][i]? = some c → RdS w T v 1 c.length (ints .u8 c)
  | 0, _, _, h1, h2 => by cases h1; cases h2; exact h
  | _ + 1, _, _, h1, _ => by simp at h1
abbrev oK (b : Nat) (x : Option Addr × Nat) (bs : List Int) : List Res := oR b x 65536 bs false
theorem lim64 : -9223372036854775808 ≤ (65536 : Int) ∧ (65536 : Int) ≤ 9223372036854775807 := by decide
theorem putK_any (b : Nat) (x : Option Addr × Nat) (bs : List Int) (k : Ky) (hsz : bs.length + 32 ≤ 65536) (w : World) (hw : OK w (fpL (oK b x bs)) (oK b x bs) w) :
    Fn Tryz.prog 51 [.pointer (some ⟨b, 0, none⟩), kyV k] (oK b x bs) w (fun _ : Option Addr × Nat => True) (fun _ => .tuple #[]) (fun y => oK b y (bs ++ k.b)) := by
  have hk := k.len
  unfold kyV
  refine enterF Tryz.func51 rfl Tryz.ntmps51 rfl hw ?_
  refine WC.seq ?_
  refine WC.region ?_
  refine WL.to (To.box (cs := k.cells) rfl rfl) rfl ?_
  intro b3
  refine WL.nil ?_
  refine WC.region ?_
  refine WL.y (Yl.move rfl) rfl ?_
  refine WL.y (Yl.sliceArr un32 sz5 (by decide) rfl) rfl ?_
  refine WL.to (To.buildSlice (vs := [.slice (some ⟨b3, 0, none⟩) 32 32]) un150 zs54 rfl rfl (by simp [Value.cells]) (by decide) (by decide)) rfl ?_
  intro b6
  refine WL.callC (xs := [.tmp 4, .tmp 6]) (cap := []) rfl rfl en79 (by repeat' constructor) (fun w hw => outFixed_any b x 65536 bs false [k.b] [.slice (some ⟨b3, 0, none⟩) 32 32] (.slice (some ⟨b6, 0, none⟩) 1 1) rfl lim64 (.inr (by dsimp only; omega)) (by simp [total, hk]; omega) w (hw.src (RdOf.blk (cs := [.slice (some ⟨b3, 0, none⟩) 32 32]) (Nat.le_refl _) (by unfold maxLen; omega) (by simp) rfl) (by repeat constructor)) (fix1 (by rw [hk]; exact hw.src (RdOf.blk (cs := k.cells) (Nat.le_refl _) (by unfold maxLen; omega) (by rw [k.clen]; omega) (by rw [List.drop_zero, List.take_of_length_le (by rw [k.clen]; omega)]; rfl)) (by repeat constructor))) hw.left.here) rfl ?_
  intro y7 _
  rw [show pts 65536 (bs, false) [k.b] = (bs ++ k.b, false) from pt_ok (by omega)]
  dsimp only
  refine WL.nil ?_
  repeat (with_reducible (first | refine peelT ?_ | refine peelB ?_ | refine peelTX ?_ | refine peelBX ?_ | refine peelBN ?_ | refine peelBO rfl ?_))
  exact ret0 (.inl rfl) Tryz.results51 fun w' h => ⟨y7, trivial, rfl, h.sub (by repeat' constructor)⟩
theorem allK_snoc (l : List Ky) (k : Ky) : allK (l ++ [k]) = allK l ++ k.b := by simp [allK]
set_option maxRecDepth 100000 in
theorem plK_any (b : Nat) (x : Option Addr × Nat) (bs : List Int) (ms : List Ky) (lv : Value) (hsz : bs.length + 2 + 32 * ms.length ≤ 65536) (hm : ms.length ≤ 4) (w : World)
    (hx : RdS w (fpL (oK b x bs)) lv 32 ms.length (vcs kyV ms)) (hw : OK w (fpL (oK b x bs)) (oK b x bs) w) :
    Fn Tryz.prog 50 [.pointer (some ⟨b, 0, none⟩), .int .i64 4, lv, .func (.func 51) #[] #[]] (oK b x bs) w (fun _ : Option Addr × Nat => True) (fun _ => .tuple #[]) (fun y => oK b y (bs ++ be ms.length 2 ++ allK ms)) := by
  obtain ⟨al, cl, rfl, hcl, hml⟩ := hx.rd.form
  refine enterF Tryz.func50 rfl Tryz.ntmps50 rfl hw ?_
  refine WC.seq ?_
  refine WC.seq ?_
  refine WC.region ?_
  refine WL.y (Yl.move rfl) rfl ?_
  refine WL.y (Yl.nilNe un102 rfl rfl) rfl ?_
  refine WL.nil ?_
  refine WC.condT rfl (by first | rfl | (simp; done) | (simp; omega)) ?_
  refine WC.region ?_
  refine WL.y (Yl.move rfl) rfl ?_
  refine WL.y (Yl.move rfl) rfl ?_
  refine WL.y (Yl.nilCheck rfl) rfl ?_
  refine WL.y (Yl.field fo141_2 rfl) rfl ?_
  refine WL.y (Yl.load on4 rfl (by repeat constructor) (by rfl)) rfl ?_
  refine WL.know (t := 16) (b' := false) rfl (by first | rfl | (simp; done) | (simp; omega)) ?_
  refine WL.y (Yl.move rfl) rfl ?_
  refine WL.on rfl rfl ?_
  refine WL.y (Yl.move rfl) rfl ?_
  refine WL.on rfl rfl ?_
  refine WL.y (Yl.eqlG rfl rfl (b := false) (fun w => by kernel_rfl)) rfl ?_
  refine WL.know (t := 19) (b' := false) rfl (by first | rfl | (simp; done) | (simp; omega)) ?_
  refine WL.y (Yl.pickF rfl rfl) rfl ?_
  refine WL.y (Yl.move rfl) rfl ?_
  refine WL.on rfl rfl ?_
  refine WL.y (Yl.move rfl) rfl ?_
  refine WL.on rfl rfl ?_
  refine WL.y (Yl.lss rfl rfl) rfl ?_
  refine WL.know (t := 23) (b' := false) rfl (by first | rfl | (simp; done) | (simp; omega)) ?_
  refine WL.y (Yl.pickF rfl rfl) rfl ?_
  refine WL.y (Yl.nilCheck rfl) rfl ?_
  refine WL.y (Yl.field fo141_2 rfl) rfl ?_
  refine WL.sto (Sto.one sz4 rfl rfl (by repeat constructor) rfl (by rfl) (by rfl)) (fun _ h => nomatch h) ?_
  refine WL.nil ?_
  refine WC.seq ?_
  refine WC.seq ?_
  refine WC.region ?_
  refine WL.y (Yl.move rfl) rfl ?_
  refine WL.y (Yl.move rfl) rfl ?_
  refine WL.y (Yl.move rfl) rfl ?_
  refine WL.y (Yl.len un22 rfl) rfl ?_
  refine WL.callC (xs := [.tmp 27, .tmp 28, .tmp 30]) (cap := []) rfl rfl en78 (by repeat' constructor) (fun w hw => outMany_any b x 65536 bs false 4 ms.length lim64 (.inr (by dsimp only; omega)) (by omega) w hw.left.here) rfl ?_
  intro y31 _
  rw [mnyOk (by omega) (by omega) (by omega)]
  dsimp only
  refine WL.know (t := 31) (b' := true) rfl (by first | rfl | (simp; done) | (simp; omega)) ?_
  refine WL.y (Yl.not rfl) rfl ?_
  refine WL.nil ?_
  refine WC.condF rfl (by first | rfl | (simp; done) | (simp; omega)) ?_
  refine WC.skip ?_
  refine WC.seq ?_
  refine WC.region ?_
  refine WL.y (Yl.move rfl) rfl ?_
  refine WL.y (Yl.len un22 rfl) rfl ?_
  refine WL.y (Yl.move rfl) rfl ?_
  refine WL.nil ?_
  refine WC.block ?_
  refine WC.loop (α := Nat × (Option Addr × Nat)) (fun p => [(0, .pointer (some ⟨b, 0, none⟩)), (3, .func (.func 51) #[] #[]), (33, .slice al ms.length cl), (34, .int .i64 (ms.length : Int)), (35, .int .i64 (p.1 : Int))]) (fun p => oK b p.2 (bs ++ be ms.length 2 ++ allK (ms.take p.1))) (fun p => p.1 ≤ ms.length) (fun p => ms.length - p.1) (0, y31) (Nat.zero_le _) ⟨(by repeat' constructor), _, (by rw [show bs ++ be ms.length 2 ++ allK (ms.take (0, y31).1) = bs ++ be ms.length 2 by simp [allK, knsB, onsB]]; exact (by repeat' constructor))⟩ ?_
  rintro ⟨j, y⟩ hj
  dsimp only at hj ⊢
  refine WC.seq ?_
  refine WC.region ?_
  refine WL.y (Yl.lss rfl rfl) rfl ?_
  refine WL.nil ?_
  refine WC.seq ?_
  refine WC.condD rfl (fun g36 => ?_) (fun g36 => ?_)
  · refine WC.skip ?_
    refine WC.seq ?_
    refine WC.block ?_
    refine WC.seq ?_
    refine WC.region ?_
    have hjl : j < ms.length := by omega
    obtain ⟨d, hdd⟩ : ∃ d, ms[j]? = some d := ⟨_, List.getElem?_eq_getElem hjl⟩
    have htl : (ms.take j).length = j := by rw [List.length_take]; omega
    have hl1 : (bs ++ be ms.length 2 ++ allK (ms.take j)).length ≤ bs.length + 2 + 32 * j := by rw [List.length_append, List.length_append, be_len]; rw [allK_len, htl]; omega
    have hnx := take_snocK hdd
    refine WL.y (Yl.index un22 sz32 rfl rfl (Reads.s hx) rfl (by omega)) rfl ?_
    refine WL.y (Yl.loadV (j := j) (u := d) vtK (fun _ _ => trivial) rfl (Reads.s hx) rfl hdd) rfl ?_
    refine WL.to (To.alloc (cs := ints .u8 (List.replicate 32 0)) zr32 rfl) rfl ?_
    intro b9
    refine WL.sto (Sto.agg sz32 rfl rfl (by repeat constructor) d.ones d.clen (by rfl) (putAll rfl)) (fun _ h => nomatch h) ?_
    refine WL.nil ?_
    refine WC.region ?_
    refine WL.y (Yl.move rfl) rfl ?_
    refine WL.y (Yl.move rfl) rfl ?_
    refine WL.y (Yl.loadNP (T := 32) (cs := d.cells) ag32 rfl (by repeat constructor) (by rw [d.clen]; omega) (show _ = d.cells by rw [List.drop_zero, List.take_of_length_le (by rw [d.clen]; omega)])) rfl ?_
    refine WL.callC (f := .tmp 39) (xs := [.tmp 40, .tmp 41]) (cap := []) rfl rfl en51 (by repeat' constructor) (fun w hw => putK_any b y (bs ++ be ms.length 2 ++ allK (ms.take j)) d (by omega) w hw.left.here) rfl ?_
    intro y2 _
    rw [List.append_assoc _ (allK (ms.take j)), ← allK_snoc, ← hnx]
    refine WL.nil ?_
    refine WC.region ?_
    refine WL.y (Yl.add rfl rfl (IntWalk.i64_in _ (by omega))) rfl ?_
    refine WL.y (Yl.move rfl) rfl ?_
    refine WL.nil ?_
    exact ⟨rfl, (j + 1, y2), by dsimp only; omega, by dsimp only; omega, (by repeat' constructor), _, (by repeat' constructor)⟩
  · refine WC.exit ?_
    repeat (with_reducible (first | refine peelT ?_ | refine peelB ?_ | refine peelTX ?_ | refine peelBX ?_ | refine peelBN ?_ | refine peelBO rfl ?_))
    have hj2 : j = ms.length := by omega
    exact ret0 (.inl rfl) Tryz.results50 fun w' h => ⟨y, trivial, rfl, by rw [hj2, List.take_length] at h; exact h.sub (by repeat' constructor)⟩
theorem pKn_any (b : Nat) (x : Option Addr × Nat) (bs : List Int) (p : Nat × Ky) (hsz : bs.length + 33 ≤ 65536) (w : World) (hw : OK w (fpL (oK b x bs)) (oK b x bs) w) :
    Fn Tryz.prog 55 [.pointer (some ⟨b, 0, none⟩), knV p] (oK b x bs) w (fun _ : Option Addr × Nat => True) (fun _ => .tuple #[]) (fun y => oK b y (bs ++ knB p)) := by
  have e : bs ++ knB p = bs ++ [(p.1 : Int)] ++ p.2.b := by simp [knB]
  rw [e]
  unfold knV
  refine enterF Tryz.func55 rfl Tryz.ntmps55 rfl hw ?_
  refine WC.seq ?_
  refine WC.region ?_
  refine WL.to (To.box (cs := knC p) rfl rfl) rfl ?_
  intro b3
  refine WL.nil ?_
  refine WC.seq ?_
  refine WC.region ?_
  refine WL.y (Yl.move rfl) rfl ?_
  refine WL.y (Yl.field fo97_0 rfl) rfl ?_
  refine WL.y (Yl.load on5 rfl (by repeat constructor) (by rfl)) rfl ?_
  refine WL.to (To.buildSlice (vs := [.int .u8 (p.1 : Int)]) un54 zs5 rfl rfl (by simp [Value.cells]) (by decide) (by decide)) rfl ?_
  intro b7
  refine WL.callC (xs := [.tmp 4, .tmp 7]) (cap := []) rfl rfl en49 (by repeat' constructor) (fun w hw => outU8_any b x 65536 bs false [(p.1 : Int)] (.slice (some ⟨b7, 0, none⟩) 1 1) lim64 (.inr (by dsimp only; omega)) (by simp; omega) w (hw.src (RdOf.blk (cs := [.int .u8 (p.1 : Int)]) (Nat.le_refl _) (by unfold maxLen; omega) (by simp) rfl) (by repeat constructor)) hw.left.here) rfl ?_
  intro y8 _
  rw [pt_ok (by simp; omega)]
  dsimp only
  refine WL.nil ?_
  refine WC.region ?_
  refine WL.y (Yl.move rfl) rfl ?_
  refine WL.y (Yl.field fo97_1 rfl) rfl ?_
  refine WL.y (Yl.loadNP (T := 97) (cs := knC p) ag32 rfl (by repeat constructor) (by rw [knC_len]; omega) (knC_key p)) rfl ?_
  refine WL.callC (xs := [.tmp 9, .tmp 11]) (cap := []) rfl rfl en51 (by repeat' constructor) (fun w hw => putK_any b y8 (bs ++ [(p.1 : Int)]) p.2 (by simp; omega) w hw.left.here) rfl ?_
  intro y12 _
  refine WL.nil ?_
  repeat (with_reducible (first | refine peelT ?_ | refine peelB ?_ | refine peelTX ?_ | refine peelBX ?_ | refine peelBN ?_ | refine peelBO rfl ?_))
  exact ret0 (.inl rfl) Tryz.results55 fun w' h => ⟨y12, trivial, rfl, h.sub (by repeat' constructor)⟩
set_option maxRecDepth 100000 in
theorem plN_any (b : Nat) (x : Option Addr × Nat) (bs : List Int) (ms : List (Nat × Ky)) (lv : Value) (hsz : bs.length + 2 + 33 * ms.length ≤ 65536) (hm : ms.length ≤ 4) (w : World)
    (hx : RdS w (fpL (oK b x bs)) lv 33 ms.length (vcs knV ms)) (hw : OK w (fpL (oK b x bs)) (oK b x bs) w) :
    Fn Tryz.prog 54 [.pointer (some ⟨b, 0, none⟩), .int .i64 4, lv, .func (.func 55) #[] #[]] (oK b x bs) w (fun _ : Option Addr × Nat => True) (fun _ => .tuple #[]) (fun y => oK b y (bs ++ be ms.length 2 ++ knsB ms)) := by
  obtain ⟨al, cl, rfl, hcl, hml⟩ := hx.rd.form
  refine enterF Tryz.func54 rfl Tryz.ntmps54 rfl hw ?_
  refine WC.seq ?_
  refine WC.seq ?_
  refine WC.region ?_
  refine WL.y (Yl.move rfl) rfl ?_
  refine WL.y (Yl.nilNe un102 rfl rfl) rfl ?_
  refine WL.nil ?_
  refine WC.condT rfl (by first | rfl | (simp; done) | (simp; omega)) ?_
  refine WC.region ?_
  refine WL.y (Yl.move rfl) rfl ?_
  refine WL.y (Yl.move rfl) rfl ?_
  refine WL.y (Yl.nilCheck rfl) rfl ?_
  refine WL.y (Yl.field fo141_2 rfl) rfl ?_
  refine WL.y (Yl.load on4 rfl (by repeat constructor) (by rfl)) rfl ?_
  refine WL.know (t := 16) (b' := false) rfl (by first | rfl | (simp; done) | (simp; omega)) ?_
  refine WL.y (Yl.move rfl) rfl ?_
  refine WL.on rfl rfl ?_
  refine WL.y (Yl.move rfl) rfl ?_
  refine WL.on rfl rfl ?_
  refine WL.y (Yl.eqlG rfl rfl (b := false) (fun w => by kernel_rfl)) rfl ?_
  refine WL.know (t := 19) (b' := false) rfl (by first | rfl | (simp; done) | (simp; omega)) ?_
  refine WL.y (Yl.pickF rfl rfl) rfl ?_
  refine WL.y (Yl.move rfl) rfl ?_
  refine WL.on rfl rfl ?_
  refine WL.y (Yl.move rfl) rfl ?_
  refine WL.on rfl rfl ?_
  refine WL.y (Yl.lss rfl rfl) rfl ?_
  refine WL.know (t := 23) (b' := false) rfl (by first | rfl | (simp; done) | (simp; omega)) ?_
  refine WL.y (Yl.pickF rfl rfl) rfl ?_
  refine WL.y (Yl.nilCheck rfl) rfl ?_
  refine WL.y (Yl.field fo141_2 rfl) rfl ?_
  refine WL.sto (Sto.one sz4 rfl rfl (by repeat constructor) rfl (by rfl) (by rfl)) (fun _ h => nomatch h) ?_
  refine WL.nil ?_
  refine WC.seq ?_
  refine WC.seq ?_
  refine WC.region ?_
  refine WL.y (Yl.move rfl) rfl ?_
  refine WL.y (Yl.move rfl) rfl ?_
  refine WL.y (Yl.move rfl) rfl ?_
  refine WL.y (Yl.len un92 rfl) rfl ?_
  refine WL.callC (xs := [.tmp 27, .tmp 28, .tmp 30]) (cap := []) rfl rfl en78 (by repeat' constructor) (fun w hw => outMany_any b x 65536 bs false 4 ms.length lim64 (.inr (by dsimp only; omega)) (by omega) w hw.left.here) rfl ?_
  intro y31 _
  rw [mnyOk (by omega) (by omega) (by omega)]
  dsimp only
  refine WL.know (t := 31) (b' := true) rfl (by first | rfl | (simp; done) | (simp; omega)) ?_
  refine WL.y (Yl.not rfl) rfl ?_
  refine WL.nil ?_
  refine WC.condF rfl (by first | rfl | (simp; done) | (simp; omega)) ?_
  refine WC.skip ?_
  refine WC.seq ?_
  refine WC.region ?_
  refine WL.y (Yl.move rfl) rfl ?_
  refine WL.y (Yl.len un92 rfl) rfl ?_
  refine WL.y (Yl.move rfl) rfl ?_
  refine WL.nil ?_
  refine WC.block ?_
  refine WC.loop (α := Nat × (Option Addr × Nat)) (fun p => [(0, .pointer (some ⟨b, 0, none⟩)), (3, .func (.func 55) #[] #[]), (33, .slice al ms.length cl), (34, .int .i64 (ms.length : Int)), (35, .int .i64 (p.1 : Int))]) (fun p => oK b p.2 (bs ++ be ms.length 2 ++ knsB (ms.take p.1))) (fun p => p.1 ≤ ms.length) (fun p => ms.length - p.1) (0, y31) (Nat.zero_le _) ⟨(by repeat' constructor), _, (by rw [show bs ++ be ms.length 2 ++ knsB (ms.take (0, y31).1) = bs ++ be ms.length 2 by simp [allK, knsB, onsB]]; exact (by repeat' constructor))⟩ ?_
  rintro ⟨j, y⟩ hj
  dsimp only at hj ⊢
  refine WC.seq ?_
  refine WC.region ?_
  refine WL.y (Yl.lss rfl rfl) rfl ?_
  refine WL.nil ?_
  refine WC.seq ?_
  refine WC.condD rfl (fun g36 => ?_) (fun g36 => ?_)
  · refine WC.skip ?_
    refine WC.seq ?_
    refine WC.block ?_
    refine WC.seq ?_
    refine WC.region ?_
    have hjl : j < ms.length := by omega
    obtain ⟨d, hdd⟩ : ∃ d, ms[j]? = some d := ⟨_, List.getElem?_eq_getElem hjl⟩
    have htl : (ms.take j).length = j := by rw [List.length_take]; omega
    have hl1 : (bs ++ be ms.length 2 ++ knsB (ms.take j)).length ≤ bs.length + 2 + 33 * j := by rw [List.length_append, List.length_append, be_len]; rw [knsB_len, htl]; omega
    have hnx := take_snocK hdd
    refine WL.y (Yl.index un92 sz97 rfl rfl (Reads.s hx) rfl (by omega)) rfl ?_
    refine WL.y (Yl.loadV (j := j) (u := d) vtKn (fun _ _ => trivial) rfl (Reads.s hx) rfl hdd) rfl ?_
    refine WL.to (To.alloc (cs := knC (0, Ky.zero)) zr97 rfl) rfl ?_
    intro b9
    refine WL.sto (Sto.agg sz97 rfl rfl (by repeat constructor) (knC_ones d) (knC_len d) (by rfl) (putAll rfl)) (fun _ h => nomatch h) ?_
    refine WL.nil ?_
    refine WC.region ?_
    refine WL.y (Yl.move rfl) rfl ?_
    refine WL.y (Yl.move rfl) rfl ?_
    refine WL.y (Yl.loadNP (T := 97) (cs := knC d) ag97 rfl (by repeat constructor) (by rw [knC_len]; omega) (show _ = knC d by rw [List.drop_zero, List.take_of_length_le (by rw [knC_len]; omega)])) rfl ?_
    refine WL.callC (f := .tmp 39) (xs := [.tmp 40, .tmp 41]) (cap := []) rfl rfl en55 (by repeat' constructor) (fun w hw => pKn_any b y (bs ++ be ms.length 2 ++ knsB (ms.take j)) d (by omega) w hw.left.here) rfl ?_
    intro y2 _
    rw [List.append_assoc _ (knsB (ms.take j)), ← knsB_snoc, ← hnx]
    refine WL.nil ?_
    refine WC.region ?_
    refine WL.y (Yl.add rfl rfl (IntWalk.i64_in _ (by omega))) rfl ?_
    refine WL.y (Yl.move rfl) rfl ?_
    refine WL.nil ?_
    exact ⟨rfl, (j + 1, y2), by dsimp only; omega, by dsimp only; omega, (by repeat' constructor), _, (by repeat' constructor)⟩
  · refine WC.exit ?_
    repeat (with_reducible (first | refine peelT ?_ | refine peelB ?_ | refine peelTX ?_ | refine peelBX ?_ | refine peelBN ?_ | refine peelBO rfl ?_))
    have hj2 : j = ms.length := by omega
    exact ret0 (.inl rfl) Tryz.results54 fun w' h => ⟨y, trivial, rfl, by rw [hj2, List.take_length] at h; exact h.sub (by repeat' constructor)⟩
theorem pOn_any (b : Nat) (x : Option Addr × Nat) (bs : List Int) (e : OnE) (h4 : e.1.l.length ≤ 4) (hsz : bs.length + 136 ≤ 65536) (w : World) (hx : RdS w (fpL (oK b x bs)) (.slice e.2.1 e.1.l.length e.2.2) 33 e.1.l.length (vcs knV e.1.l)) (hw : OK w (fpL (oK b x bs)) (oK b x bs) w) :
    Fn Tryz.prog 53 [.pointer (some ⟨b, 0, none⟩), onV e] (oK b x bs) w (fun _ : Option Addr × Nat => True) (fun _ => .tuple #[]) (fun y => oK b y (bs ++ onB e.1)) := by
  have e1 : bs ++ onB e.1 = bs ++ [e.1.a, e.1.st] ++ be e.1.l.length 2 ++ knsB e.1.l := by simp [onB]
  rw [e1]
  unfold onV
  refine enterF Tryz.func53 rfl Tryz.ntmps53 rfl hw ?_
  refine WC.seq ?_
  refine WC.region ?_
  refine WL.to (To.box (cs := onC e) rfl rfl) rfl ?_
  intro b3
  refine WL.nil ?_
  refine WC.seq ?_
  refine WC.region ?_
  refine WL.y (Yl.move rfl) rfl ?_
  refine WL.y (Yl.field fo94_0 rfl) rfl ?_
  refine WL.y (Yl.load on5 rfl (by repeat constructor) (by rfl)) rfl ?_
  refine WL.y (Yl.field fo94_1 rfl) rfl ?_
  refine WL.y (Yl.load on5 rfl (by repeat constructor) (by rfl)) rfl ?_
  refine WL.to (To.buildSlice (vs := [.int .u8 e.1.a, .int .u8 e.1.st]) un54 zs5 rfl rfl (by simp [Value.cells]) (by decide) (by decide)) rfl ?_
  intro b9
  refine WL.callC (xs := [.tmp 4, .tmp 9]) (cap := []) rfl rfl en49 (by repeat' constructor) (fun w hw => outU8_any b x 65536 bs false [e.1.a, e.1.st] (.slice (some ⟨b9, 0, none⟩) 2 2) lim64 (.inr (by dsimp only; omega)) (by simp; omega) w (hw.src (RdOf.blk (cs := [.int .u8 e.1.a, .int .u8 e.1.st]) (Nat.le_refl _) (by unfold maxLen; omega) (by simp) rfl) (by repeat constructor)) hw.left.here) rfl ?_
  intro y10 _
  rw [pt_ok (by simp; omega)]
  dsimp only
  refine WL.nil ?_
  refine WC.region ?_
  refine WL.y (Yl.move rfl) rfl ?_
  refine WL.y (Yl.field fo94_2 rfl) rfl ?_
  refine WL.y (Yl.load on92 rfl (by repeat constructor) (by rfl)) rfl ?_
  refine WL.callC (xs := [.tmp 11, _, .tmp 13, .func 55]) (cap := []) rfl rfl en54 (by repeat' constructor) (fun w hw => plN_any b y10 (bs ++ [e.1.a, e.1.st]) e.1.l (.slice e.2.1 e.1.l.length e.2.2) (by simp; omega) h4 w (hw.srcS hx) hw.left.here) rfl ?_
  intro y14 _
  refine WL.nil ?_
  repeat (with_reducible (first | refine peelT ?_ | refine peelB ?_ | refine peelTX ?_ | refine peelBX ?_ | refine peelBN ?_ | refine peelBO rfl ?_))
  exact ret0 (.inl rfl) Tryz.results53 fun w' h => ⟨y14, trivial, rfl, h.sub (by repeat' constructor)⟩
theorem onsE_le {l : List OnE} (h : ∀ e ∈ l, e.1.l.length ≤ 4) : (onsB (l.map (·.1))).length ≤ 136 * l.length := by
  have := onsB_le (l := l.map (·.1)) (fun o ho => by
    obtain ⟨e, he, rfl⟩ := List.mem_map.1 ho
    exact h e he)
  rwa [List.length_map] at this
theorem onsE_snoc (l : List OnE) (e : OnE) : onsB ((l ++ [e]).map (·.1)) = onsB (l.map (·.1)) ++ onB e.1 := by rw [List.map_append, List.map_cons, List.map_nil, onsB_snoc]
set_option maxRecDepth 100000 in
theorem plO_any (b : Nat) (x : Option Addr × Nat) (bs : List Int) (ms : List OnE) (lv : Value) (h4 : ∀ e ∈ ms, e.1.l.length ≤ 4) (hsz : bs.length + 2 + 136 * ms.length ≤ 65536) (hm : ms.length ≤ 8) (w : World)
    (hx : RdS w (fpL (oK b x bs)) lv 3 ms.length (vcs onV ms)) (hxs : ∀ e ∈ ms, RdS w (fpL (oK b x bs)) (.slice e.2.1 e.1.l.length e.2.2) 33 e.1.l.length (vcs knV e.1.l)) (hw : OK w (fpL (oK b x bs)) (oK b x bs) w) :
    Fn Tryz.prog 52 [.pointer (some ⟨b, 0, none⟩), .int .i64 8, lv, .func (.func 53) #[] #[]] (oK b x bs) w (fun _ : Option Addr × Nat => True) (fun _ => .tuple #[]) (fun y => oK b y (bs ++ be ms.length 2 ++ onsB (ms.map (·.1)))) := by
  obtain ⟨al, cl, rfl, hcl, hml⟩ := hx.rd.form
  refine enterF Tryz.func52 rfl Tryz.ntmps52 rfl hw ?_
  refine WC.seq ?_
  refine WC.seq ?_
  refine WC.region ?_
  refine WL.y (Yl.move rfl) rfl ?_
  refine WL.y (Yl.nilNe un102 rfl rfl) rfl ?_
  refine WL.nil ?_
  refine WC.condT rfl (by first | rfl | (simp; done) | (simp; omega)) ?_
  refine WC.region ?_
  refine WL.y (Yl.move rfl) rfl ?_
  refine WL.y (Yl.move rfl) rfl ?_
  refine WL.y (Yl.nilCheck rfl) rfl ?_
  refine WL.y (Yl.field fo141_2 rfl) rfl ?_
  refine WL.y (Yl.load on4 rfl (by repeat constructor) (by rfl)) rfl ?_
  refine WL.know (t := 16) (b' := false) rfl (by first | rfl | (simp; done) | (simp; omega)) ?_
  refine WL.y (Yl.move rfl) rfl ?_
  refine WL.on rfl rfl ?_
  refine WL.y (Yl.move rfl) rfl ?_
  refine WL.on rfl rfl ?_
  refine WL.y (Yl.eqlG rfl rfl (b := false) (fun w => by kernel_rfl)) rfl ?_
  refine WL.know (t := 19) (b' := false) rfl (by first | rfl | (simp; done) | (simp; omega)) ?_
  refine WL.y (Yl.pickF rfl rfl) rfl ?_
  refine WL.y (Yl.move rfl) rfl ?_
  refine WL.on rfl rfl ?_
  refine WL.y (Yl.move rfl) rfl ?_
  refine WL.on rfl rfl ?_
  refine WL.y (Yl.lss rfl rfl) rfl ?_
  refine WL.know (t := 23) (b' := false) rfl (by first | rfl | (simp; done) | (simp; omega)) ?_
  refine WL.y (Yl.pickF rfl rfl) rfl ?_
  refine WL.y (Yl.nilCheck rfl) rfl ?_
  refine WL.y (Yl.field fo141_2 rfl) rfl ?_
  refine WL.sto (Sto.one sz4 rfl rfl (by repeat constructor) rfl (by rfl) (by rfl)) (fun _ h => nomatch h) ?_
  refine WL.nil ?_
  refine WC.seq ?_
  refine WC.seq ?_
  refine WC.region ?_
  refine WL.y (Yl.move rfl) rfl ?_
  refine WL.y (Yl.move rfl) rfl ?_
  refine WL.y (Yl.move rfl) rfl ?_
  refine WL.y (Yl.len un90 rfl) rfl ?_
  refine WL.callC (xs := [.tmp 27, .tmp 28, .tmp 30]) (cap := []) rfl rfl en78 (by repeat' constructor) (fun w hw => outMany_any b x 65536 bs false 8 ms.length lim64 (.inr (by dsimp only; omega)) (by omega) w hw.left.here) rfl ?_
  intro y31 _
  rw [mnyOk (by omega) (by omega) (by omega)]
  dsimp only
  refine WL.know (t := 31) (b' := true) rfl (by first | rfl | (simp; done) | (simp; omega)) ?_
  refine WL.y (Yl.not rfl) rfl ?_
  refine WL.nil ?_
  refine WC.condF rfl (by first | rfl | (simp; done) | (simp; omega)) ?_
  refine WC.skip ?_
  refine WC.seq ?_
  refine WC.region ?_
  refine WL.y (Yl.move rfl) rfl ?_
  refine WL.y (Yl.len un90 rfl) rfl ?_
  refine WL.y (Yl.move rfl) rfl ?_
  refine WL.nil ?_
  refine WC.block ?_
  refine WC.loop (α := Nat × (Option Addr × Nat)) (fun p => [(0, .pointer (some ⟨b, 0, none⟩)), (3, .func (.func 53) #[] #[]), (33, .slice al ms.length cl), (34, .int .i64 (ms.length : Int)), (35, .int .i64 (p.1 : Int))]) (fun p => oK b p.2 (bs ++ be ms.length 2 ++ onsB ((ms.take p.1).map (·.1)))) (fun p => p.1 ≤ ms.length) (fun p => ms.length - p.1) (0, y31) (Nat.zero_le _) ⟨(by repeat' constructor), _, (by rw [show bs ++ be ms.length 2 ++ onsB ((ms.take (0, y31).1).map (·.1)) = bs ++ be ms.length 2 by simp [allK, knsB, onsB]]; exact (by repeat' constructor))⟩ ?_
  rintro ⟨j, y⟩ hj
  dsimp only at hj ⊢
  refine WC.seq ?_
  refine WC.region ?_
  refine WL.y (Yl.lss rfl rfl) rfl ?_
  refine WL.nil ?_
  refine WC.seq ?_
  refine WC.condD rfl (fun g36 => ?_) (fun g36 => ?_)
  · refine WC.skip ?_
    refine WC.seq ?_
    refine WC.block ?_
    refine WC.seq ?_
    refine WC.region ?_
    have hjl : j < ms.length := by omega
    obtain ⟨d, hdd⟩ : ∃ d, ms[j]? = some d := ⟨_, List.getElem?_eq_getElem hjl⟩
    have htl : (ms.take j).length = j := by rw [List.length_take]; omega
    have hl1 : (bs ++ be ms.length 2 ++ onsB ((ms.take j).map (·.1))).length ≤ bs.length + 2 + 136 * j := by rw [List.length_append, List.length_append, be_len]; have := onsE_le (l := ms.take j) (fun e he => h4 e (List.mem_of_mem_take he)); rw [htl] at this; omega
    have hnx := take_snocK hdd
    refine WL.y (Yl.index un90 sz94 rfl rfl (Reads.s hx) rfl (by omega)) rfl ?_
    refine WL.y (Yl.loadV (j := j) (u := d) vtOn (fun _ _ => trivial) rfl (Reads.s hx) rfl hdd) rfl ?_
    refine WL.to (To.alloc (cs := [.int .u8 0, .int .u8 0, .slice none 0 0]) zr94 rfl) rfl ?_
    intro b9
    refine WL.sto (Sto.agg sz94 rfl rfl (by repeat constructor) (onC_ones d) rfl (by rfl) (putAll rfl)) (fun _ h => nomatch h) ?_
    refine WL.nil ?_
    refine WC.region ?_
    refine WL.y (Yl.move rfl) rfl ?_
    refine WL.y (Yl.move rfl) rfl ?_
    refine WL.y (Yl.loadNP (T := 94) (cs := onC d) ag94 rfl (by repeat constructor) (Nat.le_refl 3) rfl) rfl ?_
    refine WL.callC (f := .tmp 39) (xs := [.tmp 40, .tmp 41]) (cap := []) rfl rfl en53 (by repeat' constructor) (fun w hw => pOn_any b y (bs ++ be ms.length 2 ++ onsB ((ms.take j).map (·.1))) d (h4 d (List.mem_of_getElem? hdd)) (by omega) w (hw.srcS (hxs d (List.mem_of_getElem? hdd))) hw.left.here) rfl ?_
    intro y2 _
    rw [List.append_assoc _ (onsB ((ms.take j).map (·.1))), ← onsE_snoc, ← hnx]
    refine WL.nil ?_
    refine WC.region ?_
    refine WL.y (Yl.add rfl rfl (IntWalk.i64_in _ (by omega))) rfl ?_
    refine WL.y (Yl.move rfl) rfl ?_
    refine WL.nil ?_
    exact ⟨rfl, (j + 1, y2), by dsimp only; omega, by dsimp only; omega, (by repeat' constructor), _, (by repeat' constructor)⟩
  · refine WC.exit ?_
    repeat (with_reducible (first | refine peelT ?_ | refine peelB ?_ | refine peelTX ?_ | refine peelBX ?_ | refine peelBN ?_ | refine peelBO rfl ?_))
    have hj2 : j = ms.length := by omega
    exact ret0 (.inl rfl) Tryz.results52 fun w' h => ⟨y, trivial, rfl, by rw [hj2, List.take_length] at h; exact h.sub (by repeat' constructor)⟩
end Go.Proofs.YtcplbkbimpiioaaGreatDoor

namespace Go.Proofs.YtcplbkbimpiioaaGreatDoor
open Go Go.RowKit
set_option maxHeartbeats 3200000 in
set_option maxRecDepth 100000 in
theorem bytes_any (b : Nat) (ao : Option Addr) (cp mb : Nat) (acc : Int) (own : List Ky) (ho : own.length ≤ 4) (es : Es) (hE : EG es) (C : List Ct) (hS : Same acc (pj es) C) (w : World) (hw : OK w (fpL (bkL b ao cp mb acc own es)) (bkL b ao cp mb acc own es) w) :
    Fn Tryz.prog 18 [.pointer (some ⟨b, 0, none⟩)] (bkL b ao cp mb acc own es) w (fun _ : Option Addr × Nat => True) (fun y => .slice y.1 (bkB acc own (osOf (pj es))).length y.2) (fun y => ownR (.slice y.1 (bkB acc own (osOf (pj es))).length y.2) 5 1 (bkB acc own (osOf (pj es))).length (ints .u8 (bkB acc own (osOf (pj es)))) :: bkL b ao cp mb acc own es) := by
  have hbl := bkB_len acc own (osOf (pj es))
  have hol : (osOf (pj es)).length ≤ 8 := osTo_len _ 8
  have hok : OsOk acc (osOf (pj es)) := hS.osOk 8
  have h136 := onsB_le (l := osOf (pj es)) (fun o ho => (hok o ho).l.2)
  refine enterM Tryz.func18 rfl Tryz.ntmps18 rfl hw ?_
  refine WC.seq ?_
  refine WC.region ?_
  refine WL.y (Yl.assign rfl) rfl ?_
  refine WL.nil ?_
  refine WC.seq ?_
  refine WC.seq ?_
  refine WC.region ?_
  refine WL.y (Yl.move rfl) rfl ?_
  refine WL.y (Yl.nilEq un25 rfl rfl) rfl ?_
  refine WL.know (t := 12) (b' := false) rfl (by first | rfl | (simp; done) | (simp; omega)) ?_
  refine WL.nil ?_
  refine WC.condF rfl (by first | rfl | (simp; done) | (simp; omega)) ?_
  refine WC.skip ?_
  refine WC.seq ?_
  refine WC.region ?_
  refine WL.y (Yl.assign rfl) rfl ?_
  refine WL.nil ?_
  refine WC.seq ?_
  refine WC.seq ?_
  refine WC.region ?_
  refine WL.y (Yl.move rfl) rfl ?_
  refine WL.nil ?_
  refine WC.block ?_
  refine WC.view (fun w h => h.addNil 94 3) ?_
  refine WC.view (fun w h => (OK.allNil (f := onR) h).mark0) ?_
  refine WC.loopM (α := Nat × List OnE × (Option Addr × Nat) × List Nat) (fun p => [(0, .pointer (some ⟨b, 0, none⟩)), (3, .slice p.2.2.1.1 p.2.1.length p.2.2.1.2), (13, .int .u8 (p.1 : Int))]) (fun p => markR p.2.2.2 :: allR (p.2.1.map onR) :: onsR (.slice p.2.2.1.1 p.2.1.length p.2.2.1.2) p.2.1 :: bkL b ao cp mb acc own es) (fun p => p.2.2.2.map dM) (fun p => p.1 ≤ 8 ∧ p.2.1.map (·.1) = osTo (pj es) p.1) (fun p => 8 - p.1) (0, [], (none, 0), []) ⟨Nat.zero_le _, rfl⟩ rfl ⟨(by repeat' constructor), _, (by repeat' constructor)⟩ ?_
  rintro ⟨n, L, ⟨a3, c3⟩, Dl⟩ ⟨hn, hL⟩
  dsimp only at hn hL ⊢
  have hLl : L.length ≤ 8 := by
    have := osTo_len (pj es) n
    rw [← hL, List.length_map] at this
    omega
  refine WC.seq ?_
  refine WC.region ?_
  refine WL.y (Yl.lss rfl rfl) rfl ?_
  refine WL.nil ?_
  refine WC.seq ?_
  refine WC.condD rfl (fun g14 => ?_) (fun g14 => ?_)
  · refine WC.skip ?_
    refine WC.seq ?_
    refine WC.block ?_
    refine WC.seq ?_
    refine WC.region ?_
    have hn8 : n < 8 := by omega
    have hnx := osTo_next (pj es) n
    rw [hS.onSt n] at hnx
    obtain ⟨st, hst⟩ : ∃ st, stOf (pj es) (n : Int) = st := ⟨_, rfl⟩
    refine WL.y (Yl.move rfl) rfl ?_
    refine WL.y (Yl.assign rfl) rfl ?_
    refine WL.nil ?_
    refine WC.seq ?_
    refine WC.region ?_
    refine WL.y (Yl.move rfl) rfl ?_
    refine WL.y (Yl.move rfl) rfl ?_
    refine WL.y (Yl.move rfl) rfl ?_
    refine WL.callC (xs := [.tmp 17, .tmp 18]) (cap := []) rfl rfl en22 (by repeat' constructor) (fun w hw => state_any b ao cp mb acc own es hE (n : Int) (by omega) w hw.left.here) rfl ?_
    rintro ⟨⟩ -
    rw [hst]
    rw [hst] at hnx
    dsimp only [List.cons_append, List.nil_append]
    refine WL.y (Yl.build rfl (cs := [.int .u8 (n : Int), .int .u8 st, .slice none 0 0]) (fun _ => by kernel_rfl)) rfl ?_
    refine WL.to (To.alloc (cs := [.int .u8 0, .int .u8 0, .slice none 0 0]) zr94 rfl) rfl ?_
    intro b5
    refine WL.sto (Sto.agg sz94 rfl rfl (by repeat constructor) (by intro v hv; simp at hv; rcases hv with rfl | rfl | rfl <;> rfl) rfl (by rfl) (putAll rfl)) (fun _ h => nomatch h) ?_
    refine WL.nil ?_
    refine WC.seq ?_
    refine WC.region ?_
    refine WL.y (Yl.field fo94_1 rfl) rfl ?_
    refine WL.y (Yl.load on5 rfl (by repeat constructor) (by rfl)) rfl ?_
    refine WL.y (Yl.neq rfl rfl) rfl ?_
    refine WL.nil ?_
    refine WC.cond rfl (fun g23 => ?_) (fun g23 => ?_)
    · refine WC.seq ?_
      refine WC.seq ?_
      have hz : ¬ st = 0 := by simpa using g23
      rw [if_neg hz] at hnx
      refine WC.region ?_
      refine WL.y (Yl.move rfl) rfl ?_
      refine WL.y (Yl.move rfl) rfl ?_
      refine WL.callC (xs := [.tmp 24, .tmp 25]) (cap := []) rfl rfl en23 (by repeat' constructor) (fun w hw => keys_any b (n : Int) w hw.left.here) rfl ?_
      rintro ⟨b2, b3⟩ -
      dsimp only [List.cons_append, List.nil_append]
      refine WL.nil ?_
      refine WC.block ?_
      obtain ⟨K, hK⟩ : ∃ K, devsAt (pj es) (n : Int) = K := ⟨_, rfl⟩
      have hKl : K.length ≤ 4 := by
        have h1 := kysAt_le hE (n : Int)
        rw [← kysAt_devs, List.length_map, hK] at h1
        exact h1
      rw [hK] at hnx
      refine WC.view (fun w h => h.addNil 97 33) ?_
      refine WC.rangeW (α := Option Addr × Nat) (A := keyL b b2 b3 ao cp mb acc own es (n : Int)) (E := keyL b b2 b3 ao cp mb acc own es (n : Int)) (Ex := fun _ => keyL b b2 b3 ao cp mb acc own es (n : Int)) (lb := [.pointer (some ⟨b2, 0, none⟩), .pointer (some ⟨b3, 0, none⟩)]) (xs := ysK (n : Int) (devsAt (pj es) (n : Int))) (fun i s => [blkR b5 94 [.int .u8 (n : Int), .int .u8 st, .slice s.1 (K.take i).length s.2], knR (.slice s.1 (K.take i).length s.2) (K.take i)]) (fun _ _ => True) (none, 0) rfl en58 (ysK_size (n : Int) _) rfl (by repeat' constructor) (keys_iterW b b2 b3 ao cp mb acc own es hE (n : Int) (by omega)) rfl (fun _ => rfl) trivial (by repeat' constructor) ?_ ?_
      · rintro l2 i y ⟨a9, c9⟩ hy _ W
        obtain ⟨p, hp, rfl⟩ := ysK_at hy
        have hk : K[i]? = some p := by rw [← hK]; exact hp
        have hkx := take_snocK hk
        have hil := (List.getElem?_eq_some_iff.1 hk).1
        have hl1 : (K.take i).length = i := by rw [List.length_take]; omega
        have hl2 : (K.take (i + 1)).length = i + 1 := by rw [List.length_take]; omega
        show WC _ _ _ ((28, kyV p.2) :: (27, .agg #[.int .u8 (n : Int), .int .u8 (p.1 : Int)]) :: _) _ _
        refine WC.seq ?_
        refine WC.region ?_
        refine WL.to (To.alloc (cs := [.int .u8 0, .int .u8 0]) zr40 rfl) rfl ?_
        intro b6
        refine WL.sto (Sto.agg sz40 rfl rfl (by repeat constructor) (by intro v hv; simp at hv; rcases hv with rfl | rfl <;> rfl) rfl (by rfl) (putAll rfl)) (fun _ h => nomatch h) ?_
        refine WL.nil ?_
        refine WC.region ?_
        refine WL.to (To.alloc (cs := ints .u8 (List.replicate 32 0)) zr32 rfl) rfl ?_
        intro b7
        refine WL.sto (Sto.agg sz32 rfl rfl (by repeat constructor) p.2.ones p.2.clen (by rfl) (putAll rfl)) (fun _ h => nomatch h) ?_
        refine WL.nil ?_
        repeat (with_reducible (first | refine peelT ?_ | refine peelB ?_ | refine peelTX ?_ | refine peelBX ?_ | refine peelBN ?_ | refine peelBO rfl ?_))
        refine fun W2 => ?_
        refine WC.block ?_
        refine WC.region ?_
        refine WL.y (Yl.field fo94_2 rfl) rfl ?_
        refine WL.y (Yl.load on92 rfl (by repeat constructor) (by rfl)) rfl ?_
        refine WL.y (Yl.field fo40_1 rfl) rfl ?_
        refine WL.y (Yl.load on5 rfl (by repeat constructor) (by rfl)) rfl ?_
        refine WL.y (Yl.loadNP (T := 32) (cs := p.2.cells) (cs' := p.2.cells) ag32 rfl (by repeat constructor) (by rw [p.2.clen]; omega) (by rw [List.drop_zero, List.take_of_length_le (by rw [p.2.clen]; omega)])) rfl ?_
        refine WL.y (Yl.build rfl (cs := knC p) (build_kn p.2.len (p.1 : Int))) rfl ?_
        refine WL.to (To.buildSlice (vs := [knV p]) un92 zs97 rfl rfl (knV_size p) (by decide) (by decide)) rfl ?_
        intro b35
        refine WL.to (To.append sl92 rfl rfl (by repeat constructor) (Reads.of (rdKn p) (by repeat constructor)) (vtKn.ones _) (show (K.take i).length + 1 = (K.take (i + 1)).length by omega) (show vcs knV (K.take i) ++ vcs knV [p] = vcs knV (K.take (i + 1)) by rw [hkx, vcs_app]) (by unfold maxLen; omega) (by omega)) rfl ?_
        rintro ⟨⟨ao36, c36⟩, hc36⟩
        dsimp only at hc36 ⊢
        refine WL.y (Yl.field fo94_2 rfl) rfl ?_
        refine WL.sto (Sto.one sz92 rfl rfl (by repeat constructor) rfl (by rfl) (by rfl)) (fun _ h => nomatch h) ?_
        refine WL.nil ?_
        repeat (with_reducible (first | refine peelT ?_ | refine peelB ?_ | refine peelTX ?_ | refine peelBX ?_ | refine peelBN ?_ | refine peelBO rfl ?_))
        exact ⟨[blkR b5 94 [.int .u8 (n : Int), .int .u8 st, .slice ao36 (K.take (i + 1)).length c36], knR (.slice ao36 (K.take (i + 1)).length c36) (K.take (i + 1))], _, (by repeat' constructor), (ao36, c36), trivial, rfl⟩
      · rintro ⟨a9, c9⟩ D -
        rw [ysK_len, hK, List.take_length]
        dsimp only [keyL, List.cons_append, List.nil_append]
        refine WC.view (fun w h => h.markAdd (D := D) (Dl := Dl) (by repeat constructor) (by repeat constructor)) ?_
        refine WC.region ?_
        refine WL.y (Yl.move rfl) rfl ?_
        refine WL.y (Yl.loadNP (T := 94) (cs := onC (⟨(n : Int), st, K⟩, a9, c9)) (cs' := onC (⟨(n : Int), st, K⟩, a9, c9)) ag94 rfl (by repeat constructor) (Nat.le_refl 3) rfl) rfl ?_
        refine WL.to (To.buildSlice (vs := [onV (⟨(n : Int), st, K⟩, a9, c9)]) un90 zs94 rfl rfl (fun v hv => by rw [List.mem_singleton] at hv; subst hv; simp [onV, onC, Value.cells]) (by decide) (by decide)) rfl ?_
        intro b40
        refine WL.to (To.append sl90 rfl rfl (by repeat constructor) (Reads.of (RdOf.blk (size := 3) (n := 1) (cs := flat [onV (⟨(n : Int), st, K⟩, a9, c9)]) (cs' := vcs onV [(⟨(n : Int), st, K⟩, a9, c9)]) (Nat.le_refl _) (by unfold maxLen; omega) (by simp [flat, onV, onC, Value.cells]) (by rw [List.drop_zero, List.take_of_length_le (by simp [flat, onV, onC, Value.cells])]; rfl)) (by repeat constructor)) (vtOn.ones _) (show L.length + 1 = (L ++ [((⟨(n : Int), st, K⟩ : On), a9, c9)]).length by simp) (show vcs onV L ++ vcs onV [((⟨(n : Int), st, K⟩ : On), a9, c9)] = vcs onV (L ++ [((⟨(n : Int), st, K⟩ : On), a9, c9)]) by rw [vcs_app]) (by simp; unfold maxLen; omega) (by simp; omega)) rfl ?_
        rintro ⟨⟨ao41, c41⟩, hc41⟩
        dsimp only at hc41 ⊢
        refine WL.y (Yl.assign rfl) rfl ?_
        refine WL.nil ?_
        refine WC.view (fun w h => OK.allMore (f := onR) (l := L) (x := ((⟨(n : Int), st, K⟩ : On), a9, c9)) h (by repeat' constructor)) ?_
        refine WC.region ?_
        refine WL.y (Yl.add rfl rfl (show IntKind.u8.wrap ((n : Int) + 1) = ((n + 1 : Nat) : Int) by rw [IntKind.wrap_u8]; omega)) rfl ?_
        refine WL.y (Yl.move rfl) rfl ?_
        refine WL.nil ?_
        exact ⟨(n + 1, L ++ [((⟨(n : Int), st, K⟩ : On), a9, c9)], (ao41, c41), D :: Dl), rfl, ⟨by dsimp only; omega, by dsimp only; rw [List.map_append, hL, hnx]; rfl⟩, by dsimp only; omega, (by repeat' constructor), _, (by repeat' constructor)⟩
    · refine WC.skip ?_
      refine WC.region ?_
      refine WL.y (Yl.add rfl rfl (show IntKind.u8.wrap ((n : Int) + 1) = ((n + 1 : Nat) : Int) by rw [IntKind.wrap_u8]; omega)) rfl ?_
      refine WL.y (Yl.move rfl) rfl ?_
      refine WL.nil ?_
      have hz : st = 0 := by simpa using g23
      rw [if_pos hz, List.append_nil] at hnx
      exact ⟨(n + 1, L, (a3, c3), Dl), rfl, ⟨by dsimp only; omega, by dsimp only; rw [hL, hnx]⟩, by dsimp only; omega, (by repeat' constructor), _, (by repeat' constructor)⟩
  · refine WC.exit ?_
    refine WC.seq ?_
    have hn8 : n = 8 := by omega
    subst hn8
    have hL' : L.map (·.1) = osOf (pj es) := hL
    have h4 : ∀ e ∈ L, e.1.l.length ≤ 4 := fun e he => (hok e.1 (by rw [← hL']; exact List.mem_map.2 ⟨e, he, rfl⟩)).l.2
    have hLL : L.length = (osOf (pj es)).length := by rw [← hL', List.length_map]
    refine WC.region ?_
    refine WL.callC (xs := [_]) (cap := []) rfl rfl en48 (by repeat' constructor) (fun w hw => newOut_any 65536 w hw.left.here) rfl ?_
    intro b43 _
    dsimp only [List.cons_append, List.nil_append]
    refine WL.y (Yl.assign rfl) rfl ?_
    refine WL.nil ?_
    refine WC.seq ?_
    refine WC.region ?_
    refine WL.y (Yl.move rfl) rfl ?_
    refine WL.y (Yl.move rfl) rfl ?_
    refine WL.y (Yl.nilCheck rfl) rfl ?_
    refine WL.y (Yl.field fo67_0 rfl) rfl ?_
    refine WL.y (Yl.load on5 rfl (by repeat constructor) (by rfl)) rfl ?_
    refine WL.to (To.buildSlice (vs := [.int .u8 acc]) un54 zs5 rfl rfl (by simp [Value.cells]) (by decide) (by decide)) rfl ?_
    intro b49
    refine WL.callC (xs := [.tmp 44, .tmp 49]) (cap := []) rfl rfl en49 (by repeat' constructor) (fun w hw => outU8_any b43 (none, 0) 65536 [] false [acc] (.slice (some ⟨b49, 0, none⟩) 1 1) lim64 (.inl rfl) (by simp) w (hw.src (RdOf.blk (cs := [.int .u8 acc]) (Nat.le_refl _) (by unfold maxLen; omega) (by simp) rfl) (by repeat constructor)) hw.left.here) rfl ?_
    intro y50 _
    rw [show pt 65536 ([], false) [acc] = ([acc], false) from pt_ok (by simp)]
    dsimp only [List.cons_append, List.nil_append]
    refine WL.nil ?_
    refine WC.seq ?_
    refine WC.region ?_
    refine WL.y (Yl.move rfl) rfl ?_
    refine WL.y (Yl.move rfl) rfl ?_
    refine WL.y (Yl.nilCheck rfl) rfl ?_
    refine WL.y (Yl.field fo67_1 rfl) rfl ?_
    refine WL.y (Yl.load on22 rfl (by repeat constructor) (by rfl)) rfl ?_
    refine WL.callC (xs := [.tmp 51, _, .tmp 55, .func 51]) (cap := []) rfl rfl en50 (by repeat' constructor) (fun w hw => plK_any b43 y50 [acc] own (.slice ao own.length cp) (by simp; omega) (by omega) w (hw.src (r := rwK (.slice ao own.length cp) own.length own) RdOf.own (by repeat constructor)) hw.left.here) rfl ?_
    intro y56 _
    dsimp only [oK, oR, List.cons_append, List.nil_append]
    refine WL.nil ?_
    refine WC.seq ?_
    refine WC.region ?_
    refine WL.y (Yl.move rfl) rfl ?_
    refine WL.y (Yl.move rfl) rfl ?_
    refine WL.callC (xs := [.tmp 57, _, .tmp 58, .func 53]) (cap := []) rfl rfl en52 (by repeat' constructor) (fun w hw => plO_any b43 y56 ([acc] ++ be own.length 2 ++ allK own) L (.slice a3 L.length c3) h4 (by simp [be_len, allK_len]; omega) hLl w (hw.src (r := onsR (.slice a3 L.length c3) L) RdOf.own (by repeat constructor)) (fun e he => hw.src (r := allR (L.map onR)) (RdOf.onE he) (by repeat constructor)) hw.left.here) rfl ?_
    intro y59 _
    rw [hL', hLL]
    rw [show [acc] ++ be own.length 2 ++ allK own ++ be (osOf (pj es)).length 2 ++ onsB (osOf (pj es)) = bkB acc own (osOf (pj es)) from rfl]
    dsimp only [oK, oR, List.cons_append, List.nil_append]
    refine WL.nil ?_
    refine WC.seq ?_
    refine WC.region ?_
    refine WL.y (Yl.move rfl) rfl ?_
    refine WL.callC (xs := [.tmp 61]) (cap := []) rfl rfl en56 (by repeat' constructor) (fun w hw => outBytes_ok b43 y59 65536 (bkB acc own (osOf (pj es))) (by omega) (by omega) w hw.left.here) rfl ?_
    intro y62 _
    refine WL.y (Yl.move rfl) rfl ?_
    refine WL.y (Yl.extract rfl rfl) rfl ?_
    refine WL.y (Yl.extract rfl rfl) rfl ?_
    refine WL.y (Yl.assign rfl) rfl ?_
    refine WL.y (Yl.assign rfl) rfl ?_
    refine WL.nil ?_
    refine WC.seq ?_
    refine WC.view (fun w h => h.markEnd (Dl := Dl) (by repeat constructor)) ?_
    refine WC.region ?_
    refine WL.y (Yl.move rfl) rfl ?_
    refine WL.y (Yl.assign rfl) rfl ?_
    refine WL.nil ?_
    refine WC.ret ?_
    repeat (with_reducible (first | refine peelT ?_ | refine peelB ?_ | refine peelTX ?_ | refine peelBX ?_ | refine peelBN ?_ | refine peelBO rfl ?_))
    refine retM.of (marks_end Dl _) ?_
    exact ret1 (.inr rfl) Tryz.results18 rfl fun w' h => ⟨y62, trivial, rfl, h.sub (by repeat' constructor)⟩
end Go.Proofs.YtcplbkbimpiioaaGreatDoor

namespace Go.Proofs.YtcplbkbimpiioaaGreatDoor
open Go Go.RowKit
abbrev iR (b : Nat) (bs : List Int) (x : Option Addr × Nat) : Res := inR b (.slice x.1 bs.length x.2) false
theorem copyK (k : Ky) : (ints .u8 (List.replicate 32 0)).take 0 ++ (ints .u8 k.b).take 32 ++ (ints .u8 (List.replicate 32 0)).drop (0 + ((ints .u8 k.b).take 32).length) = k.cells := by
  have h : (ints .u8 k.b).length = 32 := k.clen
  rw [List.take_zero, List.nil_append, List.take_of_length_le (l := ints .u8 k.b) (by omega), h, List.drop_of_length_le (by simp [ints]), List.append_nil]
  rfl
set_option maxRecDepth 100000 in
theorem takeKey_any (b : Nat) (x : Option Addr × Nat) (k : Ky) (rest : List Int) (r : Res) (hr : Rf r (k.b ++ rest) x) (w : World) (hw : OK w (fpL [iR b (k.b ++ rest) x, r]) [iR b (k.b ++ rest) x, r] w) :
    Fn Tryz.prog 41 [.pointer (some ⟨b, 0, none⟩)] [iR b (k.b ++ rest) x, r] w (fun y : Option Addr × Nat => Rf r rest y) (fun _ => kyV k) (fun y => [iR b rest y, r]) := by
  refine enterF Tryz.func41 rfl Tryz.ntmps41 rfl hw ?_
  refine WC.seq ?_
  refine WC.region ?_
  refine WL.to (To.alloc (cs := ints .u8 (List.replicate 32 0)) zr32 rfl) rfl ?_
  intro b2
  refine WL.nil ?_
  refine WC.seq ?_
  refine WC.drawAny (Hs := []) mixed (by kernel_rfl) ⟨_, (by repeat' constructor)⟩ ?_
  refine WD.tk 0 rfl (by kernel_rfl) rfl rfl (Yl.sliceArr un32 sz5 (by decide) rfl) rfl ?_
  refine WD.tk 1 rfl (by kernel_rfl) rfl rfl (Yl.move rfl) rfl ?_
  refine WD.one 2 (by kernel_rfl) ?_
  refine WO.callC (xs := [.tmp 4, _]) (cap := []) rfl .no rfl rfl en76 (by repeat' constructor) (fun w hw => inFixed_x b x 32 k.b rest k.len r hr w hw.left.here) rfl (fun _ => ⟨_, (by repeat' constructor)⟩) ?_
  rintro ⟨⟨a4, c4⟩, z⟩ ⟨q1, q2⟩
  dsimp only at q1 q2 ⊢
  refine WD.one 3 (by kernel_rfl) ?_
  refine WO.to rfl rfl .no (To.copy un54 sz5 rfl rfl (by repeat constructor) (Reads.of q1.1 (by repeat constructor)) (ints_one _ _) (by rfl) (copyK k)) rfl (fun _ => ⟨_, (by repeat' constructor)⟩) ?_
  rintro ⟨⟩
  refine WD.done (by kernel_rfl) ?_
  refine WC.seq ?_
  refine WC.region ?_
  refine WL.y (Yl.loadNP (T := 32) (cs := k.cells) (cs' := k.cells) ag32 rfl (by repeat constructor) (by rw [k.clen]; omega) (by rw [List.drop_zero, List.take_of_length_le (by rw [k.clen]; omega)])) rfl ?_
  refine WL.sto (Sto.aggP (T := 32) (cs := k.cells) (cs' := k.cells) sz32 rfl rfl (by repeat constructor) k.ones k.clen (by rw [k.clen]; omega) (by rw [List.take_zero, List.nil_append, List.drop_of_length_le (by rw [k.clen]; omega), List.append_nil])) (fun _ h => nomatch h) ?_
  refine WL.nil ?_
  refine WC.ret ?_
  repeat (with_reducible (first | refine peelT ?_ | refine peelB ?_ | refine peelTX ?_ | refine peelBX ?_ | refine peelBN ?_ | refine peelBO rfl ?_))
  exact retC1 (cs := k.cells) (.inr rfl) Tryz.results41 ag32 rfl (by repeat constructor) k.clen fun w' h => ⟨z, q2, rfl, h.sub (by repeat' constructor)⟩
theorem allK_drop {l : List Ky} {j : Nat} {k : Ky} (h : l[j]? = some k) (rest : List Int) : allK (l.drop j) ++ rest = k.b ++ (allK (l.drop (j + 1)) ++ rest) := by
  obtain ⟨h1, rfl⟩ := List.getElem?_eq_some_iff.1 h
  rw [List.drop_eq_getElem_cons h1]
  unfold allK
  rw [List.flatMap_cons, List.append_assoc]
theorem knsB_drop {l : List (Nat × Ky)} {j : Nat} {p : Nat × Ky} (h : l[j]? = some p) (rest : List Int) : knsB (l.drop j) ++ rest = (p.1 : Int) :: (p.2.b ++ (knsB (l.drop (j + 1)) ++ rest)) := by
  obtain ⟨h1, rfl⟩ := List.getElem?_eq_some_iff.1 h
  rw [List.drop_eq_getElem_cons h1]
  unfold knsB
  rw [List.flatMap_cons, List.append_assoc]
  rfl
theorem onsB_drop {l : List On} {j : Nat} {o : On} (h : l[j]? = some o) (rest : List Int) : onsB (l.drop j) ++ rest = o.a :: o.st :: (be o.l.length 2 ++ (knsB o.l ++ (onsB (l.drop (j + 1)) ++ rest))) := by
  obtain ⟨h1, rfl⟩ := List.getElem?_eq_some_iff.1 h
  rw [List.drop_eq_getElem_cons h1]
  generalize l.drop (j + 1) = D
  generalize l[j] = o
  simp [onsB, onB]
set_option maxRecDepth 100000 in
theorem tlK_any (b : Nat) (x : Option Addr × Nat) (ms : List Ky) (hm : ms.length ≤ 4) (rest : List Int) (r : Res) (hr : Rf r (be ms.length 2 ++ (allK ms ++ rest)) x) (hB : Bytes (be ms.length 2 ++ (allK ms ++ rest))) (w : World) (hw : OK w (fpL [iR b (be ms.length 2 ++ (allK ms ++ rest)) x, r]) [iR b (be ms.length 2 ++ (allK ms ++ rest)) x, r] w) :
    Fn Tryz.prog 40 [.pointer (some ⟨b, 0, none⟩), .int .i64 4, .func (.func 41) #[] #[]] [iR b (be ms.length 2 ++ (allK ms ++ rest)) x, r] w (fun y : (Option Addr × Nat) × Option Addr × Nat => Rf r rest y.2) (fun y => .slice y.1.1 ms.length y.1.2) (fun y => [iR b rest y.2, r, ownR (.slice y.1.1 ms.length y.1.2) 32 32 ms.length (vcs kyV ms)]) := by
  refine enterF Tryz.func40 rfl Tryz.ntmps40 rfl hw ?_
  refine WC.seq ?_
  refine WC.region ?_
  refine WL.y (Yl.assign rfl) rfl ?_
  refine WL.nil ?_
  refine WC.seq ?_
  refine WC.seq ?_
  refine WC.region ?_
  refine WL.y (Yl.move rfl) rfl ?_
  refine WL.y (Yl.nilNe un85 rfl rfl) rfl ?_
  refine WL.know (t := 10) (b' := true) rfl (by first | rfl | (simp; done) | (simp; omega)) ?_
  refine WL.y (Yl.move rfl) rfl ?_
  refine WL.on rfl rfl ?_
  refine WL.y (Yl.move rfl) rfl ?_
  refine WL.on rfl rfl ?_
  refine WL.y (Yl.eqlG rfl rfl (b := false) (fun w => by kernel_rfl)) rfl ?_
  refine WL.know (t := 13) (b' := false) rfl (by first | rfl | (simp; done) | (simp; omega)) ?_
  refine WL.y (Yl.pickT rfl rfl) rfl ?_
  refine WL.nil ?_
  refine WC.condF rfl (by first | rfl | (simp; done) | (simp; omega)) ?_
  refine WC.skip ?_
  refine WC.seq ?_
  refine WC.region ?_
  refine WL.y (Yl.assign rfl) rfl ?_
  refine WL.nil ?_
  refine WC.seq ?_
  refine WC.seq ?_
  refine WC.region ?_
  refine WL.y (Yl.move rfl) rfl ?_
  refine WL.y (Yl.move rfl) rfl ?_
  refine WL.callC (xs := [.tmp 18, .tmp 19]) (cap := []) rfl rfl en75 (by repeat' constructor) (fun w hw => inMany_x b x ms.length 4 (allK ms ++ rest) hm (by decide) r hr hB w hw.left.here) rfl ?_
  rintro ⟨a1, c1⟩ r1
  refine WL.y (Yl.assign rfl) rfl ?_
  refine WL.nil ?_
  refine WC.block ?_
  have hB1 : Bytes (allK ms ++ rest) := hB.tail
  refine WC.view (fun w h => h.addNil 32 32) ?_
  refine WC.loop (α := Nat × (Option Addr × Nat) × (Option Addr × Nat)) (fun p => [(0, .pointer (some ⟨b, 0, none⟩)), (2, .func (.func 41) #[] #[]), (6, .slice none 0 0), (7, .slice p.2.1.1 (ms.take p.1).length p.2.1.2), (8, .int .i64 ((ms.length : Int) - (p.1 : Int)))]) (fun p => [ownR (.slice p.2.1.1 (ms.take p.1).length p.2.1.2) 32 32 (ms.take p.1).length (vcs kyV (ms.take p.1)), iR b (allK (ms.drop p.1) ++ rest) p.2.2, r]) (fun p => p.1 ≤ ms.length ∧ Rf r (allK (ms.drop p.1) ++ rest) p.2.2 ∧ Bytes (allK (ms.drop p.1) ++ rest)) (fun p => ms.length - p.1) (0, (none, 0), (a1, c1)) ⟨Nat.zero_le _, r1, hB1⟩ ⟨(by dsimp only; rw [Int.ofNat_zero, Int.sub_zero]; exact (by repeat' constructor)), _, (by repeat' constructor)⟩ ?_
  rintro ⟨j, ⟨a2, c2⟩, a1, c1⟩ ⟨hj, r1, hB1⟩
  dsimp only at hj r1 hB1 ⊢
  refine WC.seq ?_
  refine WC.seq ?_
  refine WC.region ?_
  refine WL.y (Yl.move rfl) rfl ?_
  refine WL.y (Yl.gtr rfl rfl) rfl ?_
  refine WL.y (Yl.move rfl) rfl ?_
  refine WL.both (t := 23) rfl (fun g23 => ?_) (fun g23 => ?_)
  · refine WL.on rfl rfl ?_
    refine WL.y (Yl.move rfl) rfl ?_
    refine WL.on rfl rfl ?_
    refine WL.y (Yl.nilCheck rfl) rfl ?_
    refine WL.on rfl rfl ?_
    refine WL.y (Yl.field fo136_1 rfl) rfl ?_
    refine WL.on rfl rfl ?_
    refine WL.y (Yl.load on4 rfl (by repeat constructor) (by rfl)) rfl ?_
    refine WL.on rfl rfl ?_
    refine WL.y (Yl.not rfl) rfl ?_
    refine WL.know (t := 28) (b' := true) rfl (by first | rfl | (simp; done) | (simp; omega)) ?_
    refine WL.y (Yl.pickT rfl rfl) rfl ?_
    refine WL.nil ?_
    refine WC.condT rfl (by first | rfl | (simp; done) | (simp; omega)) ?_
    refine WC.skip ?_
    refine WC.seq ?_
    refine WC.block ?_
    have hjl : j < ms.length := by have := of_decide_eq_true g23; omega
    obtain ⟨d, hd⟩ : ∃ d, ms[j]? = some d := ⟨_, List.getElem?_eq_getElem hjl⟩
    have hdr := allK_drop hd rest
    have hnx := take_snocK hd
    have htl : (ms.take j).length = j := by rw [List.length_take]; omega
    have htl2 : (ms.take (j + 1)).length = j + 1 := by rw [List.length_take]; omega
    rw [hdr] at r1 hB1 ⊢
    refine WC.region ?_
    refine WL.y (Yl.move rfl) rfl ?_
    refine WL.y (Yl.move rfl) rfl ?_
    refine WL.y (Yl.move rfl) rfl ?_
    refine WL.callC (f := .tmp 33) (xs := [.tmp 34]) (cap := []) rfl rfl en41 (by repeat' constructor) (fun w hw => takeKey_any b (a1, c1) d (allK (ms.drop (j + 1)) ++ rest) r r1 w hw.left.here) rfl ?_
    rintro ⟨a3, c3⟩ r3
    refine WL.to (To.buildSlice (vs := [kyV d]) un22 zs32 rfl rfl (fun v hv => by rw [List.mem_singleton] at hv; subst hv; unfold kyV; simp [Value.cells, Ky.clen]) (by decide) (by decide)) rfl ?_
    intro b36
    refine WL.to (To.append sl22 rfl rfl (by repeat constructor) (Reads.of (RdOf.blk (size := 32) (n := 1) (cs := flat [kyV d]) (cs' := vcs kyV [d]) (Nat.le_refl _) (by unfold maxLen; omega) (by simp [flat, kyV, Value.cells, Ky.clen]) (by rw [List.drop_zero, List.take_of_length_le (by simp [flat, kyV, Value.cells, Ky.clen])]; rfl)) (by repeat constructor)) (vtK.ones _) (show (ms.take j).length + 1 = (ms.take (j + 1)).length by omega) (show vcs kyV (ms.take j) ++ vcs kyV [d] = vcs kyV (ms.take (j + 1)) by rw [hnx, vcs_app]) (by unfold maxLen; omega) (by omega)) rfl ?_
    rintro ⟨⟨ao37, c37⟩, hc37⟩
    dsimp only at hc37 ⊢
    refine WL.y (Yl.assign rfl) rfl ?_
    refine WL.nil ?_
    refine WC.region ?_
    refine WL.y (Yl.move rfl) rfl ?_
    refine WL.y (Yl.sub rfl rfl (IntWalk.i64_in _ (by omega))) rfl ?_
    refine WL.say (t := 31) (v' := .int .i64 ((ms.length : Int) - ((j + 1 : Nat) : Int))) rfl (by (refine congrArg (Value.int .i64) ?_; omega)) ?_
    refine WL.y (Yl.assign rfl) rfl ?_
    refine WL.nil ?_
    exact ⟨rfl, (j + 1, (ao37, c37), (a3, c3)), ⟨by dsimp only; omega, r3, hB1.tail⟩, by dsimp only; omega, (by repeat' constructor), _, (by repeat' constructor)⟩
  · refine WL.off rfl rfl rfl rfl ?_
    refine WL.off rfl rfl rfl rfl ?_
    refine WL.off rfl rfl rfl rfl ?_
    refine WL.off rfl rfl rfl rfl ?_
    refine WL.off rfl rfl rfl rfl ?_
    refine WL.y (Yl.pickF rfl rfl) rfl ?_
    refine WL.nil ?_
    refine WC.condF rfl (by first | rfl | (simp; done) | (simp; omega)) ?_
    refine WC.exit ?_
    refine WC.seq ?_
    refine WC.seq ?_
    have hjl : j = ms.length := by have := of_decide_eq_false g23; omega
    subst hjl
    rw [List.take_length]
    rw [List.drop_length] at r1 ⊢
    refine WC.region ?_
    refine WL.y (Yl.move rfl) rfl ?_
    refine WL.y (Yl.nilEq un85 rfl rfl) rfl ?_
    refine WL.know (t := 39) (b' := false) rfl (by first | rfl | (simp; done) | (simp; omega)) ?_
    refine WL.y (Yl.move rfl) rfl ?_
    refine WL.on rfl rfl ?_
    refine WL.y (Yl.move rfl) rfl ?_
    refine WL.on rfl rfl ?_
    refine WL.y (Yl.nilCheck rfl) rfl ?_
    refine WL.on rfl rfl ?_
    refine WL.y (Yl.field fo136_1 rfl) rfl ?_
    refine WL.on rfl rfl ?_
    refine WL.y (Yl.load on4 rfl (by repeat constructor) (by rfl)) rfl ?_
    refine WL.know (t := 44) (b' := false) rfl (by first | rfl | (simp; done) | (simp; omega)) ?_
    refine WL.y (Yl.pickF rfl rfl) rfl ?_
    refine WL.nil ?_
    refine WC.condF rfl (by first | rfl | (simp; done) | (simp; omega)) ?_
    refine WC.skip ?_
    refine WC.seq ?_
    refine WC.region ?_
    refine WL.y (Yl.move rfl) rfl ?_
    refine WL.y (Yl.assign rfl) rfl ?_
    refine WL.nil ?_
    refine WC.ret ?_
    repeat (with_reducible (first | refine peelT ?_ | refine peelB ?_ | refine peelTX ?_ | refine peelBX ?_ | refine peelBN ?_ | refine peelBO rfl ?_))
    exact ret1 (.inr rfl) Tryz.results40 rfl fun w' h => ⟨((a2, c2), (a1, c1)), r1, rfl, h.sub (by repeat' constructor)⟩
theorem ld11_any (b : Nat) (x : Option Addr × Nat) (p : Nat × Ky) (rest : List Int) (r : Res) (hr : Rf r ((p.1 : Int) :: (p.2.b ++ rest)) x) (hB : Bytes ((p.1 : Int) :: (p.2.b ++ rest))) (w : World) (hw : OK w (fpL [iR b ((p.1 : Int) :: (p.2.b ++ rest)) x, r]) [iR b ((p.1 : Int) :: (p.2.b ++ rest)) x, r] w) :
    Fn Tryz.prog 45 [.pointer (some ⟨b, 0, none⟩)] [iR b ((p.1 : Int) :: (p.2.b ++ rest)) x, r] w (fun y : Option Addr × Nat => Rf r rest y) (fun _ => knV p) (fun y => [iR b rest y, r]) := by
  refine enterF Tryz.func45 rfl Tryz.ntmps45 rfl hw ?_
  refine WC.seq ?_
  refine WC.region ?_
  refine WL.to (To.alloc (cs := knC (0, Ky.zero)) zr97 rfl) rfl ?_
  intro b2
  refine WL.nil ?_
  refine WC.seq ?_
  refine WC.region ?_
  refine WL.y (Yl.move rfl) rfl ?_
  refine WL.callC (xs := [.tmp 3]) (cap := []) rfl rfl en39 (by repeat' constructor) (fun w hw => inU8_x b x (p.1 : Int) (p.2.b ++ rest) r hr hB w hw.left.here) rfl ?_
  rintro ⟨a4, c4⟩ r4
  refine WL.y (Yl.move rfl) rfl ?_
  refine WL.callC (xs := [.tmp 5]) (cap := []) rfl rfl en41 (by repeat' constructor) (fun w hw => takeKey_any b (a4, c4) p.2 rest r r4 w hw.left.here) rfl ?_
  rintro ⟨a6, c6⟩ r6
  refine WL.y (Yl.build rfl (cs := knC p) (build_kn p.2.len (p.1 : Int))) rfl ?_
  refine WL.sto (Sto.agg sz97 rfl rfl (by repeat constructor) (knC_ones p) (knC_len p) (by rfl) (putAll rfl)) (fun _ h => nomatch h) ?_
  refine WL.nil ?_
  refine WC.ret ?_
  repeat (with_reducible (first | refine peelT ?_ | refine peelB ?_ | refine peelTX ?_ | refine peelBX ?_ | refine peelBN ?_ | refine peelBO rfl ?_))
  exact retC1 (cs := knC p) (.inr rfl) Tryz.results45 ag97 rfl (by repeat constructor) (knC_len p) fun w' h => ⟨(a6, c6), r6, rfl, h.sub (by repeat' constructor)⟩
set_option maxRecDepth 100000 in
theorem tlN_any (b : Nat) (x : Option Addr × Nat) (ms : List (Nat × Ky)) (hm : ms.length ≤ 4) (rest : List Int) (r : Res) (hr : Rf r (be ms.length 2 ++ (knsB ms ++ rest)) x) (hB : Bytes (be ms.length 2 ++ (knsB ms ++ rest))) (w : World) (hw : OK w (fpL [iR b (be ms.length 2 ++ (knsB ms ++ rest)) x, r]) [iR b (be ms.length 2 ++ (knsB ms ++ rest)) x, r] w) :
    Fn Tryz.prog 44 [.pointer (some ⟨b, 0, none⟩), .int .i64 4, .func (.func 45) #[] #[]] [iR b (be ms.length 2 ++ (knsB ms ++ rest)) x, r] w (fun y : (Option Addr × Nat) × Option Addr × Nat => Rf r rest y.2) (fun y => .slice y.1.1 ms.length y.1.2) (fun y => [iR b rest y.2, r, ownR (.slice y.1.1 ms.length y.1.2) 97 33 ms.length (vcs knV ms)]) := by
  refine enterF Tryz.func44 rfl Tryz.ntmps44 rfl hw ?_
  refine WC.seq ?_
  refine WC.region ?_
  refine WL.y (Yl.assign rfl) rfl ?_
  refine WL.nil ?_
  refine WC.seq ?_
  refine WC.seq ?_
  refine WC.region ?_
  refine WL.y (Yl.move rfl) rfl ?_
  refine WL.y (Yl.nilNe un85 rfl rfl) rfl ?_
  refine WL.know (t := 10) (b' := true) rfl (by first | rfl | (simp; done) | (simp; omega)) ?_
  refine WL.y (Yl.move rfl) rfl ?_
  refine WL.on rfl rfl ?_
  refine WL.y (Yl.move rfl) rfl ?_
  refine WL.on rfl rfl ?_
  refine WL.y (Yl.eqlG rfl rfl (b := false) (fun w => by kernel_rfl)) rfl ?_
  refine WL.know (t := 13) (b' := false) rfl (by first | rfl | (simp; done) | (simp; omega)) ?_
  refine WL.y (Yl.pickT rfl rfl) rfl ?_
  refine WL.nil ?_
  refine WC.condF rfl (by first | rfl | (simp; done) | (simp; omega)) ?_
  refine WC.skip ?_
  refine WC.seq ?_
  refine WC.region ?_
  refine WL.y (Yl.assign rfl) rfl ?_
  refine WL.nil ?_
  refine WC.seq ?_
  refine WC.seq ?_
  refine WC.region ?_
  refine WL.y (Yl.move rfl) rfl ?_
  refine WL.y (Yl.move rfl) rfl ?_
  refine WL.callC (xs := [.tmp 18, .tmp 19]) (cap := []) rfl rfl en75 (by repeat' constructor) (fun w hw => inMany_x b x ms.length 4 (knsB ms ++ rest) hm (by decide) r hr hB w hw.left.here) rfl ?_
  rintro ⟨a1, c1⟩ r1
  refine WL.y (Yl.assign rfl) rfl ?_
  refine WL.nil ?_
  refine WC.block ?_
  have hB1 : Bytes (knsB ms ++ rest) := hB.tail
  refine WC.view (fun w h => h.addNil 97 33) ?_
  refine WC.loop (α := Nat × (Option Addr × Nat) × (Option Addr × Nat)) (fun p => [(0, .pointer (some ⟨b, 0, none⟩)), (2, .func (.func 45) #[] #[]), (6, .slice none 0 0), (7, .slice p.2.1.1 (ms.take p.1).length p.2.1.2), (8, .int .i64 ((ms.length : Int) - (p.1 : Int)))]) (fun p => [ownR (.slice p.2.1.1 (ms.take p.1).length p.2.1.2) 97 33 (ms.take p.1).length (vcs knV (ms.take p.1)), iR b (knsB (ms.drop p.1) ++ rest) p.2.2, r]) (fun p => p.1 ≤ ms.length ∧ Rf r (knsB (ms.drop p.1) ++ rest) p.2.2 ∧ Bytes (knsB (ms.drop p.1) ++ rest)) (fun p => ms.length - p.1) (0, (none, 0), (a1, c1)) ⟨Nat.zero_le _, r1, hB1⟩ ⟨(by dsimp only; rw [Int.ofNat_zero, Int.sub_zero]; exact (by repeat' constructor)), _, (by repeat' constructor)⟩ ?_
  rintro ⟨j, ⟨a2, c2⟩, a1, c1⟩ ⟨hj, r1, hB1⟩
  dsimp only at hj r1 hB1 ⊢
  refine WC.seq ?_
  refine WC.seq ?_
  refine WC.region ?_
  refine WL.y (Yl.move rfl) rfl ?_
  refine WL.y (Yl.gtr rfl rfl) rfl ?_
  refine WL.y (Yl.move rfl) rfl ?_
  refine WL.both (t := 23) rfl (fun g23 => ?_) (fun g23 => ?_)
  · refine WL.on rfl rfl ?_
    refine WL.y (Yl.move rfl) rfl ?_
    refine WL.on rfl rfl ?_
    refine WL.y (Yl.nilCheck rfl) rfl ?_
    refine WL.on rfl rfl ?_
    refine WL.y (Yl.field fo136_1 rfl) rfl ?_
    refine WL.on rfl rfl ?_
    refine WL.y (Yl.load on4 rfl (by repeat constructor) (by rfl)) rfl ?_
    refine WL.on rfl rfl ?_
    refine WL.y (Yl.not rfl) rfl ?_
    refine WL.know (t := 28) (b' := true) rfl (by first | rfl | (simp; done) | (simp; omega)) ?_
    refine WL.y (Yl.pickT rfl rfl) rfl ?_
    refine WL.nil ?_
    refine WC.condT rfl (by first | rfl | (simp; done) | (simp; omega)) ?_
    refine WC.skip ?_
    refine WC.seq ?_
    refine WC.block ?_
    have hjl : j < ms.length := by have := of_decide_eq_true g23; omega
    obtain ⟨d, hd⟩ : ∃ d, ms[j]? = some d := ⟨_, List.getElem?_eq_getElem hjl⟩
    have hdr := knsB_drop hd rest
    have hnx := take_snocK hd
    have htl : (ms.take j).length = j := by rw [List.length_take]; omega
    have htl2 : (ms.take (j + 1)).length = j + 1 := by rw [List.length_take]; omega
    rw [hdr] at r1 hB1 ⊢
    refine WC.region ?_
    refine WL.y (Yl.move rfl) rfl ?_
    refine WL.y (Yl.move rfl) rfl ?_
    refine WL.y (Yl.move rfl) rfl ?_
    refine WL.callC (f := .tmp 33) (xs := [.tmp 34]) (cap := []) rfl rfl en45 (by repeat' constructor) (fun w hw => ld11_any b (a1, c1) d (knsB (ms.drop (j + 1)) ++ rest) r r1 hB1 w hw.left.here) rfl ?_
    rintro ⟨a3, c3⟩ r3
    refine WL.to (To.buildSlice (vs := [knV d]) un92 zs97 rfl rfl (knV_size d) (by decide) (by decide)) rfl ?_
    intro b36
    refine WL.to (To.append sl92 rfl rfl (by repeat constructor) (Reads.of (rdKn d) (by repeat constructor)) (vtKn.ones _) (show (ms.take j).length + 1 = (ms.take (j + 1)).length by omega) (show vcs knV (ms.take j) ++ vcs knV [d] = vcs knV (ms.take (j + 1)) by rw [hnx, vcs_app]) (by unfold maxLen; omega) (by omega)) rfl ?_
    rintro ⟨⟨ao37, c37⟩, hc37⟩
    dsimp only at hc37 ⊢
    refine WL.y (Yl.assign rfl) rfl ?_
    refine WL.nil ?_
    refine WC.region ?_
    refine WL.y (Yl.move rfl) rfl ?_
    refine WL.y (Yl.sub rfl rfl (IntWalk.i64_in _ (by omega))) rfl ?_
    refine WL.say (t := 31) (v' := .int .i64 ((ms.length : Int) - ((j + 1 : Nat) : Int))) rfl (by (refine congrArg (Value.int .i64) ?_; omega)) ?_
    refine WL.y (Yl.assign rfl) rfl ?_
    refine WL.nil ?_
    exact ⟨rfl, (j + 1, (ao37, c37), (a3, c3)), ⟨by dsimp only; omega, r3, Bytes.tail (xs := (d.1 : Int) :: d.2.b) hB1⟩, by dsimp only; omega, (by repeat' constructor), _, (by repeat' constructor)⟩
  · refine WL.off rfl rfl rfl rfl ?_
    refine WL.off rfl rfl rfl rfl ?_
    refine WL.off rfl rfl rfl rfl ?_
    refine WL.off rfl rfl rfl rfl ?_
    refine WL.off rfl rfl rfl rfl ?_
    refine WL.y (Yl.pickF rfl rfl) rfl ?_
    refine WL.nil ?_
    refine WC.condF rfl (by first | rfl | (simp; done) | (simp; omega)) ?_
    refine WC.exit ?_
    refine WC.seq ?_
    refine WC.seq ?_
    have hjl : j = ms.length := by have := of_decide_eq_false g23; omega
    subst hjl
    rw [List.take_length]
    rw [List.drop_length] at r1 ⊢
    refine WC.region ?_
    refine WL.y (Yl.move rfl) rfl ?_
    refine WL.y (Yl.nilEq un85 rfl rfl) rfl ?_
    refine WL.know (t := 39) (b' := false) rfl (by first | rfl | (simp; done) | (simp; omega)) ?_
    refine WL.y (Yl.move rfl) rfl ?_
    refine WL.on rfl rfl ?_
    refine WL.y (Yl.move rfl) rfl ?_
    refine WL.on rfl rfl ?_
    refine WL.y (Yl.nilCheck rfl) rfl ?_
    refine WL.on rfl rfl ?_
    refine WL.y (Yl.field fo136_1 rfl) rfl ?_
    refine WL.on rfl rfl ?_
    refine WL.y (Yl.load on4 rfl (by repeat constructor) (by rfl)) rfl ?_
    refine WL.know (t := 44) (b' := false) rfl (by first | rfl | (simp; done) | (simp; omega)) ?_
    refine WL.y (Yl.pickF rfl rfl) rfl ?_
    refine WL.nil ?_
    refine WC.condF rfl (by first | rfl | (simp; done) | (simp; omega)) ?_
    refine WC.skip ?_
    refine WC.seq ?_
    refine WC.region ?_
    refine WL.y (Yl.move rfl) rfl ?_
    refine WL.y (Yl.assign rfl) rfl ?_
    refine WL.nil ?_
    refine WC.ret ?_
    repeat (with_reducible (first | refine peelT ?_ | refine peelB ?_ | refine peelTX ?_ | refine peelBX ?_ | refine peelBN ?_ | refine peelBO rfl ?_))
    exact ret1 (.inr rfl) Tryz.results44 rfl fun w' h => ⟨((a2, c2), (a1, c1)), r1, rfl, h.sub (by repeat' constructor)⟩
theorem ld1_any (b : Nat) (x : Option Addr × Nat) (o : On) (h4 : o.l.length ≤ 4) (rest : List Int) (r : Res) (hr : Rf r (o.a :: o.st :: (be o.l.length 2 ++ (knsB o.l ++ rest))) x) (hB : Bytes (o.a :: o.st :: (be o.l.length 2 ++ (knsB o.l ++ rest)))) (w : World) (hw : OK w (fpL [iR b (o.a :: o.st :: (be o.l.length 2 ++ (knsB o.l ++ rest))) x, r]) [iR b (o.a :: o.st :: (be o.l.length 2 ++ (knsB o.l ++ rest))) x, r] w) :
    Fn Tryz.prog 43 [.pointer (some ⟨b, 0, none⟩)] [iR b (o.a :: o.st :: (be o.l.length 2 ++ (knsB o.l ++ rest))) x, r] w (fun y : (Option Addr × Nat) × Option Addr × Nat => Rf r rest y.2) (fun y => onV (o, y.1)) (fun y => [iR b rest y.2, r, onR (o, y.1)]) := by
  refine enterF Tryz.func43 rfl Tryz.ntmps43 rfl hw ?_
  refine WC.seq ?_
  refine WC.region ?_
  refine WL.to (To.alloc (cs := [.int .u8 0, .int .u8 0, .slice none 0 0]) zr94 rfl) rfl ?_
  intro b2
  refine WL.nil ?_
  refine WC.seq ?_
  refine WC.region ?_
  refine WL.y (Yl.move rfl) rfl ?_
  refine WL.callC (xs := [.tmp 3]) (cap := []) rfl rfl en39 (by repeat' constructor) (fun w hw => inU8_x b x o.a (o.st :: (be o.l.length 2 ++ (knsB o.l ++ rest))) r hr hB w hw.left.here) rfl ?_
  rintro ⟨a4, c4⟩ r4
  refine WL.y (Yl.move rfl) rfl ?_
  refine WL.callC (xs := [.tmp 5]) (cap := []) rfl rfl en39 (by repeat' constructor) (fun w hw => inU8_x b (a4, c4) o.st (be o.l.length 2 ++ (knsB o.l ++ rest)) r r4 (Bytes.tail (xs := [o.a]) hB) w hw.left.here) rfl ?_
  rintro ⟨a6, c6⟩ r6
  refine WL.y (Yl.move rfl) rfl ?_
  refine WL.callC (xs := [.tmp 7, _, .func 45]) (cap := []) rfl rfl en44 (by repeat' constructor) (fun w hw => tlN_any b (a6, c6) o.l h4 rest r r6 (Bytes.tail (xs := [o.a, o.st]) hB) w hw.left.here) rfl ?_
  rintro ⟨⟨a8, c8⟩, a9, c9⟩ r9
  refine WL.y (Yl.build rfl (cs := onC (o, a8, c8)) (fun _ => by kernel_rfl)) rfl ?_
  refine WL.sto (Sto.agg sz94 rfl rfl (by repeat constructor) (onC_ones (o, a8, c8)) rfl (by rfl) (putAll rfl)) (fun _ h => nomatch h) ?_
  refine WL.nil ?_
  refine WC.ret ?_
  repeat (with_reducible (first | refine peelT ?_ | refine peelB ?_ | refine peelTX ?_ | refine peelBX ?_ | refine peelBN ?_ | refine peelBO rfl ?_))
  exact retC1 (cs := onC (o, a8, c8)) (.inr rfl) Tryz.results43 ag94 rfl (by repeat constructor) rfl fun w' h => ⟨((a8, c8), (a9, c9)), r9, rfl, h.sub (by repeat' constructor)⟩
set_option maxRecDepth 100000 in
theorem tlO_any (b : Nat) (x : Option Addr × Nat) (ms : List On) (h4 : ∀ o ∈ ms, o.l.length ≤ 4) (hm : ms.length ≤ 8) (rest : List Int) (r : Res) (hr : Rf r (be ms.length 2 ++ (onsB ms ++ rest)) x) (hB : Bytes (be ms.length 2 ++ (onsB ms ++ rest))) (w : World) (hw : OK w (fpL [iR b (be ms.length 2 ++ (onsB ms ++ rest)) x, r]) [iR b (be ms.length 2 ++ (onsB ms ++ rest)) x, r] w) :
    Fn Tryz.prog 42 [.pointer (some ⟨b, 0, none⟩), .int .i64 8, .func (.func 43) #[] #[]] [iR b (be ms.length 2 ++ (onsB ms ++ rest)) x, r] w (fun y : List OnE × (Option Addr × Nat) × Option Addr × Nat => y.1.map (·.1) = ms ∧ Rf r rest y.2.2) (fun y => .slice y.2.1.1 y.1.length y.2.1.2) (fun y => [iR b rest y.2.2, r, onsR (.slice y.2.1.1 y.1.length y.2.1.2) y.1, allR (y.1.map onR)]) := by
  refine enterF Tryz.func42 rfl Tryz.ntmps42 rfl hw ?_
  refine WC.seq ?_
  refine WC.region ?_
  refine WL.y (Yl.assign rfl) rfl ?_
  refine WL.nil ?_
  refine WC.seq ?_
  refine WC.seq ?_
  refine WC.region ?_
  refine WL.y (Yl.move rfl) rfl ?_
  refine WL.y (Yl.nilNe un85 rfl rfl) rfl ?_
  refine WL.know (t := 10) (b' := true) rfl (by first | rfl | (simp; done) | (simp; omega)) ?_
  refine WL.y (Yl.move rfl) rfl ?_
  refine WL.on rfl rfl ?_
  refine WL.y (Yl.move rfl) rfl ?_
  refine WL.on rfl rfl ?_
  refine WL.y (Yl.eqlG rfl rfl (b := false) (fun w => by kernel_rfl)) rfl ?_
  refine WL.know (t := 13) (b' := false) rfl (by first | rfl | (simp; done) | (simp; omega)) ?_
  refine WL.y (Yl.pickT rfl rfl) rfl ?_
  refine WL.nil ?_
  refine WC.condF rfl (by first | rfl | (simp; done) | (simp; omega)) ?_
  refine WC.skip ?_
  refine WC.seq ?_
  refine WC.region ?_
  refine WL.y (Yl.assign rfl) rfl ?_
  refine WL.nil ?_
  refine WC.seq ?_
  refine WC.seq ?_
  refine WC.region ?_
  refine WL.y (Yl.move rfl) rfl ?_
  refine WL.y (Yl.move rfl) rfl ?_
  refine WL.callC (xs := [.tmp 18, .tmp 19]) (cap := []) rfl rfl en75 (by repeat' constructor) (fun w hw => inMany_x b x ms.length 8 (onsB ms ++ rest) hm (by decide) r hr hB w hw.left.here) rfl ?_
  rintro ⟨a1, c1⟩ r1
  refine WL.y (Yl.assign rfl) rfl ?_
  refine WL.nil ?_
  refine WC.block ?_
  have hB1 : Bytes (onsB ms ++ rest) := hB.tail
  refine WC.view (fun w h => OK.allNil (f := onR) (h.addNil 94 3)) ?_
  refine WC.loop (α := List OnE × (Option Addr × Nat) × (Option Addr × Nat)) (fun p => [(0, .pointer (some ⟨b, 0, none⟩)), (2, .func (.func 43) #[] #[]), (6, .slice none 0 0), (7, .slice p.2.1.1 p.1.length p.2.1.2), (8, .int .i64 ((ms.length : Int) - (p.1.length : Int)))]) (fun p => [onsR (.slice p.2.1.1 p.1.length p.2.1.2) p.1, allR (p.1.map onR), iR b (onsB (ms.drop p.1.length) ++ rest) p.2.2, r]) (fun p => p.1.length ≤ ms.length ∧ p.1.map (·.1) = ms.take p.1.length ∧ Rf r (onsB (ms.drop p.1.length) ++ rest) p.2.2 ∧ Bytes (onsB (ms.drop p.1.length) ++ rest)) (fun p => ms.length - p.1.length) ([], (none, 0), (a1, c1)) ⟨Nat.zero_le _, rfl, r1, hB1⟩ ⟨(by dsimp only [List.length_nil]; rw [Int.ofNat_zero, Int.sub_zero]; exact (by repeat' constructor)), _, (by repeat' constructor)⟩ ?_
  rintro ⟨L, ⟨a2, c2⟩, a1, c1⟩ ⟨hj, hL, r1, hB1⟩
  dsimp only at hj hL r1 hB1 ⊢
  refine WC.seq ?_
  refine WC.seq ?_
  refine WC.region ?_
  refine WL.y (Yl.move rfl) rfl ?_
  refine WL.y (Yl.gtr rfl rfl) rfl ?_
  refine WL.y (Yl.move rfl) rfl ?_
  refine WL.both (t := 23) rfl (fun g23 => ?_) (fun g23 => ?_)
  · refine WL.on rfl rfl ?_
    refine WL.y (Yl.move rfl) rfl ?_
    refine WL.on rfl rfl ?_
    refine WL.y (Yl.nilCheck rfl) rfl ?_
    refine WL.on rfl rfl ?_
    refine WL.y (Yl.field fo136_1 rfl) rfl ?_
    refine WL.on rfl rfl ?_
    refine WL.y (Yl.load on4 rfl (by repeat constructor) (by rfl)) rfl ?_
    refine WL.on rfl rfl ?_
    refine WL.y (Yl.not rfl) rfl ?_
    refine WL.know (t := 28) (b' := true) rfl (by first | rfl | (simp; done) | (simp; omega)) ?_
    refine WL.y (Yl.pickT rfl rfl) rfl ?_
    refine WL.nil ?_
    refine WC.condT rfl (by first | rfl | (simp; done) | (simp; omega)) ?_
    refine WC.skip ?_
    refine WC.seq ?_
    refine WC.block ?_
    have hjl : L.length < ms.length := by have := of_decide_eq_true g23; omega
    obtain ⟨d, hd⟩ : ∃ d, ms[L.length]? = some d := ⟨_, List.getElem?_eq_getElem hjl⟩
    have hdr := onsB_drop hd rest
    have hnx := take_snocK hd
    rw [hdr] at r1 hB1 ⊢
    refine WC.region ?_
    refine WL.y (Yl.move rfl) rfl ?_
    refine WL.y (Yl.move rfl) rfl ?_
    refine WL.y (Yl.move rfl) rfl ?_
    refine WL.callC (f := .tmp 33) (xs := [.tmp 34]) (cap := []) rfl rfl en43 (by repeat' constructor) (fun w hw => ld1_any b (a1, c1) d (h4 d (List.mem_of_getElem? hd)) (onsB (ms.drop (L.length + 1)) ++ rest) r r1 hB1 w hw.left.here) rfl ?_
    rintro ⟨⟨a5, c5⟩, a3, c3⟩ r3
    refine WL.to (To.buildSlice (vs := [onV (d, a5, c5)]) un90 zs94 rfl rfl (fun v hv => by rw [List.mem_singleton] at hv; subst hv; simp [onV, onC, Value.cells]) (by decide) (by decide)) rfl ?_
    intro b36
    refine WL.to (To.append sl90 rfl rfl (by repeat constructor) (Reads.of (RdOf.blk (size := 3) (n := 1) (cs := flat [onV (d, a5, c5)]) (cs' := vcs onV [(d, a5, c5)]) (Nat.le_refl _) (by unfold maxLen; omega) (by simp [flat, onV, onC, Value.cells]) (by rw [List.drop_zero, List.take_of_length_le (by simp [flat, onV, onC, Value.cells])]; rfl)) (by repeat constructor)) (vtOn.ones _) (show L.length + 1 = (L ++ [(d, a5, c5)]).length by simp) (show vcs onV L ++ vcs onV [(d, a5, c5)] = vcs onV (L ++ [(d, a5, c5)]) by rw [vcs_app]) (by simp; unfold maxLen; omega) (by simp; omega)) rfl ?_
    rintro ⟨⟨ao37, c37⟩, hc37⟩
    dsimp only at hc37 ⊢
    refine WL.y (Yl.assign rfl) rfl ?_
    refine WL.nil ?_
    refine WC.view (fun w h => OK.allMore (f := onR) (l := L) (x := (d, a5, c5)) h (by repeat' constructor)) ?_
    have hLl : (L ++ [(d, a5, c5)]).length = L.length + 1 := by simp
    refine WC.region ?_
    refine WL.y (Yl.move rfl) rfl ?_
    refine WL.y (Yl.sub rfl rfl (IntWalk.i64_in _ (by omega))) rfl ?_
    refine WL.say (t := 31) (v' := .int .i64 ((ms.length : Int) - ((L ++ [(d, a5, c5)]).length : Int))) rfl (by (refine congrArg (Value.int .i64) ?_; rw [hLl]; omega)) ?_
    refine WL.y (Yl.assign rfl) rfl ?_
    refine WL.nil ?_
    exact ⟨rfl, (L ++ [(d, a5, c5)], (ao37, c37), (a3, c3)), ⟨by dsimp only; omega, by dsimp only; rw [hLl, List.map_append, hL, hnx]; rfl, by dsimp only; rw [hLl]; exact r3, by dsimp only; rw [hLl]; exact Bytes.tail (xs := be d.l.length 2 ++ knsB d.l) (by rw [List.append_assoc]; exact Bytes.tail (xs := [d.a, d.st]) hB1)⟩, by dsimp only; omega, (by repeat' constructor), _, (by dsimp only; rw [show onsB (ms.drop (L ++ [(d, a5, c5)]).length) = onsB (ms.drop (L.length + 1)) by rw [hLl]]; exact (by repeat' constructor))⟩
  · refine WL.off rfl rfl rfl rfl ?_
    refine WL.off rfl rfl rfl rfl ?_
    refine WL.off rfl rfl rfl rfl ?_
    refine WL.off rfl rfl rfl rfl ?_
    refine WL.off rfl rfl rfl rfl ?_
    refine WL.y (Yl.pickF rfl rfl) rfl ?_
    refine WL.nil ?_
    refine WC.condF rfl (by first | rfl | (simp; done) | (simp; omega)) ?_
    refine WC.exit ?_
    refine WC.seq ?_
    refine WC.seq ?_
    have hjl : L.length = ms.length := by have := of_decide_eq_false g23; omega
    have e : onsB (ms.drop L.length) = [] := by rw [hjl, List.drop_length]; rfl
    rw [e, List.nil_append] at r1
    rw [e, List.nil_append]
    rw [hjl, List.take_length] at hL
    refine WC.region ?_
    refine WL.y (Yl.move rfl) rfl ?_
    refine WL.y (Yl.nilEq un85 rfl rfl) rfl ?_
    refine WL.know (t := 39) (b' := false) rfl (by first | rfl | (simp; done) | (simp; omega)) ?_
    refine WL.y (Yl.move rfl) rfl ?_
    refine WL.on rfl rfl ?_
    refine WL.y (Yl.move rfl) rfl ?_
    refine WL.on rfl rfl ?_
    refine WL.y (Yl.nilCheck rfl) rfl ?_
    refine WL.on rfl rfl ?_
    refine WL.y (Yl.field fo136_1 rfl) rfl ?_
    refine WL.on rfl rfl ?_
    refine WL.y (Yl.load on4 rfl (by repeat constructor) (by rfl)) rfl ?_
    refine WL.know (t := 44) (b' := false) rfl (by first | rfl | (simp; done) | (simp; omega)) ?_
    refine WL.y (Yl.pickF rfl rfl) rfl ?_
    refine WL.nil ?_
    refine WC.condF rfl (by first | rfl | (simp; done) | (simp; omega)) ?_
    refine WC.skip ?_
    refine WC.seq ?_
    refine WC.region ?_
    refine WL.y (Yl.move rfl) rfl ?_
    refine WL.y (Yl.assign rfl) rfl ?_
    refine WL.nil ?_
    refine WC.ret ?_
    repeat (with_reducible (first | refine peelT ?_ | refine peelB ?_ | refine peelTX ?_ | refine peelBX ?_ | refine peelBN ?_ | refine peelBO rfl ?_))
    refine ret1 (.inr rfl) Tryz.results42 rfl fun w' h => ⟨(L, (a2, c2), (a1, c1)), ⟨hL, r1⟩, rfl, h.sub (by repeat' constructor)⟩
end Go.Proofs.YtcplbkbimpiioaaGreatDoor

namespace Go.Proofs.YtcplbkbimpiioaaGreatDoor
open Go Go.RowKit
theorem equal_any (xs ys : List Int) (v u : Value) (hX : Bytes xs) (hY : Bytes ys) (w : World) (hx : RdS w (fpL []) v 1 xs.length (ints .u8 xs)) (hy : RdS w (fpL []) u 1 ys.length (ints .u8 ys)) (hw : OK w (fpL []) [] w) :
    Fn Tryz.prog 47 [v, u] [] w (fun _ : Unit => True) (fun _ => .bool (decide (xs = ys))) (fun _ => []) := by
  refine enterF Tryz.func47 rfl Tryz.ntmps47 rfl hw ?_
  refine WC.seq ?_
  refine WC.region ?_
  refine WL.y (Yl.assign rfl) rfl ?_
  refine WL.nil ?_
  refine WC.seq ?_
  refine WC.region ?_
  refine WL.y (Yl.move rfl) rfl ?_
  refine WL.y (Yl.toStr un54 un5 un9 rfl (Reads.s hx)) rfl ?_
  refine WL.y (Yl.move rfl) rfl ?_
  refine WL.y (Yl.toStr un54 un5 un9 rfl (Reads.s hy)) rfl ?_
  refine WL.y (Yl.sEq rfl rfl) rfl ?_
  refine WL.y (Yl.assign rfl) rfl ?_
  refine WL.nil ?_
  refine WC.ret ?_
  repeat (with_reducible (first | refine peelT ?_ | refine peelB ?_ | refine peelTX ?_ | refine peelBX ?_ | refine peelBN ?_ | refine peelBO rfl ?_))
  exact ret1 (.inr rfl) Tryz.results47 rfl fun w' h => ⟨(), trivial, by rw [strEq hX hY], h.sub (by repeat' constructor)⟩
theorem bkB_open (acc : Int) (own : List Ky) (os : List On) : bkB acc own os = acc :: (be own.length 2 ++ (allK own ++ (be os.length 2 ++ (onsB os ++ [])))) := by simp [bkB]
set_option maxHeartbeats 3200000 in
set_option maxRecDepth 100000 in
theorem load_bk (acc : Int) (ha : 0 ≤ acc ∧ acc < 8) (own : List Ky) (hown : setK own = own) (hl : 1 ≤ own.length ∧ own.length ≤ 4) (l : Cs) (C : List Ct) (hS : Same acc l C) (xv : Value) (w : World)
    (hx : RdS w (fpL []) xv 1 (bkB acc own (osOf l)).length (ints .u8 (bkB acc own (osOf l)))) (hw : OK w (fpL []) [] w) :
    Fn Tryz.prog 17 [xv] [] w (fun y : Nat × (Option Addr × Nat) × Nat × Es => EG y.2.2.2 ∧ pj y.2.2.2 = loadC [] (osOf l)) (fun y => .tuple #[.pointer (some ⟨y.1, 0, none⟩), .int .i64 0]) (fun y => bkL y.1 y.2.1.1 y.2.1.2 y.2.2.1 acc own y.2.2.2) := by
  have hS2 := hS.load
  have hso := hS.load_os
  have hok : OsOk acc (osOf l) := hS.osOk 8
  have hol : (osOf l).length ≤ 8 := osTo_len _ 8
  have hXl := bkB_len acc own (osOf l)
  have hBX := bkB_by (acc := acc) (by omega) own hok
  have hX := bkB_open acc own (osOf l)
  obtain ⟨os, hos⟩ : ∃ os, osOf l = os := ⟨_, rfl⟩
  rw [hos] at hS2 hso hok hol hXl hBX hX hx ⊢
  have h136 := onsB_le (l := os) (fun o ho => (hok o ho).l.2)
  obtain ⟨X, hXX⟩ : ∃ X, bkB acc own os = X := ⟨_, rfl⟩
  rw [hXX] at hXl hBX hX hx
  have hXs : X.length ≤ 2000 := by omega
  have hB0 := hBX
  rw [hX] at hB0
  refine enterF Tryz.func17 rfl Tryz.ntmps17 rfl hw ?_
  refine WC.seq ?_
  refine WC.region ?_
  refine WL.y (Yl.assign rfl) rfl ?_
  refine WL.y (Yl.assign rfl) rfl ?_
  refine WL.nil ?_
  refine WC.seq ?_
  refine WC.region ?_
  refine WL.y (Yl.move rfl) rfl ?_
  refine WL.callC (xs := [.tmp 16]) (cap := []) rfl rfl en38 (by repeat' constructor) (fun w hw => newIn_any xv X (by omega) w (hw.srcS (A := []) hx) hw.left.here) rfl ?_
  rintro ⟨bi, ai, ci⟩ hci
  dsimp only [List.cons_append, List.nil_append] at hci ⊢
  obtain ⟨r, hr⟩ : ∃ r, ownR (.slice ai X.length ci) 5 1 X.length (ints .u8 X) = r := ⟨_, rfl⟩
  have hrf : Rf r X (ai, ci) := hr ▸ ⟨RdOf.own, hci⟩
  rw [hr]
  rw [hX] at hrf ⊢
  refine WL.y (Yl.assign rfl) rfl ?_
  refine WL.nil ?_
  refine WC.seq ?_
  refine WC.region ?_
  refine WL.y (Yl.move rfl) rfl ?_
  refine WL.callC (xs := [.tmp 18]) (cap := []) rfl rfl en39 (by repeat' constructor) (fun w hw => inU8_x bi (ai, ci) acc (be own.length 2 ++ (allK own ++ (be os.length 2 ++ (onsB os ++ [])))) r hrf hB0 w hw.left.here) rfl ?_
  rintro ⟨a1, c1⟩ r1
  dsimp only [List.cons_append, List.nil_append]
  refine WL.y (Yl.assign rfl) rfl ?_
  refine WL.nil ?_
  refine WC.seq ?_
  refine WC.region ?_
  refine WL.y (Yl.move rfl) rfl ?_
  refine WL.callC (xs := [.tmp 20, _, .func 41]) (cap := []) rfl rfl en40 (by repeat' constructor) (fun w hw => tlK_any bi (a1, c1) own hl.2 (be os.length 2 ++ (onsB os ++ [])) r r1 (Bytes.tail (xs := [acc]) hB0) w hw.left.here) rfl ?_
  rintro ⟨⟨a21, c21⟩, a2, c2⟩ r2
  dsimp only [List.cons_append, List.nil_append]
  refine WL.y (Yl.assign rfl) rfl ?_
  refine WL.nil ?_
  refine WC.seq ?_
  refine WC.region ?_
  refine WL.y (Yl.move rfl) rfl ?_
  refine WL.callC (xs := [.tmp 22, _, .func 43]) (cap := []) rfl rfl en42 (by repeat' constructor) (fun w hw => tlO_any bi (a2, c2) os (fun o ho => (hok o ho).l.2) hol [] r r2 (Bytes.tail (xs := allK own) (Bytes.tail (xs := acc :: be own.length 2) hB0)) w hw.left.here) rfl ?_
  rintro ⟨L, ⟨a23, c23⟩, a3, c3⟩ ⟨hL, r3⟩
  dsimp only [List.cons_append, List.nil_append] at hL r3 ⊢
  refine WL.y (Yl.assign rfl) rfl ?_
  refine WL.nil ?_
  refine WC.seq ?_
  refine WC.seq ?_
  refine WC.region ?_
  refine WL.y (Yl.move rfl) rfl ?_
  refine WL.callC (xs := [.tmp 24]) (cap := []) rfl rfl en46 (by repeat' constructor) (fun w hw => inEnd_any bi a3 c3 [] false w hw.left.here) rfl ?_
  rintro ⟨⟩ -
  dsimp only [List.cons_append, List.nil_append]
  refine WL.y (Yl.neq rfl rfl) rfl ?_
  refine WL.know (t := 26) (b' := false) rfl (by first | rfl | (simp; done) | (simp; omega)) ?_
  refine WL.nil ?_
  refine WC.condF rfl (by first | rfl | (simp; done) | (simp; omega)) ?_
  refine WC.skip ?_
  refine WC.seq ?_
  refine WC.region ?_
  refine WL.y (Yl.move rfl) rfl ?_
  refine WL.y (Yl.move rfl) rfl ?_
  refine WL.callC (xs := [.tmp 28, .tmp 29]) (cap := []) rfl rfl en5 (by repeat' constructor) (fun w hw => new_any acc (.slice a21 own.length c21) own ha hl w (hw.src (A := []) (r := rwK (.slice a21 own.length c21) own.length own) RdOf.own (by repeat constructor)) hw.left.here) rfl ?_
  rintro ⟨b, ⟨ao, cp⟩, mb⟩ -
  rw [hown]
  dsimp only [List.cons_append, List.nil_append]
  refine WL.y (Yl.move rfl) rfl ?_
  refine WL.y (Yl.extract rfl rfl) rfl ?_
  refine WL.y (Yl.extract rfl rfl) rfl ?_
  refine WL.y (Yl.assign rfl) rfl ?_
  refine WL.y (Yl.assign rfl) rfl ?_
  refine WL.nil ?_
  refine WC.seq ?_
  refine WC.seq ?_
  refine WC.region ?_
  refine WL.y (Yl.move rfl) rfl ?_
  refine WL.y (Yl.neq rfl rfl) rfl ?_
  refine WL.know (t := 34) (b' := false) rfl (by first | rfl | (simp; done) | (simp; omega)) ?_
  refine WL.nil ?_
  refine WC.condF rfl (by first | rfl | (simp; done) | (simp; omega)) ?_
  refine WC.skip ?_
  refine WC.seq ?_
  refine WC.seq ?_
  refine WC.region ?_
  refine WL.y (Yl.move rfl) rfl ?_
  refine WL.y (Yl.len un90 rfl) rfl ?_
  refine WL.y (Yl.move rfl) rfl ?_
  refine WL.nil ?_
  refine WC.block ?_
  have hLl : L.length = os.length := by rw [← hL, List.length_map]
  refine WC.loop (α := Nat × Es) (fun p => [(0, xv), (8, .pointer (some ⟨b, 0, none⟩)), (35, .slice a23 L.length c23), (36, .int .i64 (L.length : Int)), (37, .int .i64 (p.1 : Int))]) (fun p => onsR (.slice a23 L.length c23) L :: allR (L.map onR) :: bkL b ao cp mb acc own p.2) (fun p => p.1 ≤ L.length ∧ EG p.2 ∧ pj p.2 = loadC [] (os.take p.1)) (fun p => L.length - p.1) (0, []) ⟨Nat.zero_le _, EG.nil, rfl⟩ ⟨(by repeat' constructor), _, (by repeat' constructor)⟩ ?_
  rintro ⟨j, es⟩ ⟨hj, hE, hP⟩
  dsimp only at hj hE hP ⊢
  refine WC.seq ?_
  refine WC.region ?_
  refine WL.y (Yl.lss rfl rfl) rfl ?_
  refine WL.nil ?_
  refine WC.seq ?_
  refine WC.condD rfl (fun g38 => ?_) (fun g38 => ?_)
  · refine WC.skip ?_
    refine WC.seq ?_
    refine WC.block ?_
    refine WC.seq ?_
    have hjl : j < L.length := by omega
    obtain ⟨e, he⟩ : ∃ e, L[j]? = some e := ⟨_, List.getElem?_eq_getElem hjl⟩
    have hem := List.mem_of_getElem? he
    have heo : os[j]? = some e.1 := by rw [← hL, List.getElem?_map, he]; rfl
    have heok := hok _ (List.mem_of_getElem? heo)
    have hea := heok.a
    have hes := heok.st
    have hel := heok.l
    have hnx := take_snocK heo
    have hnd : mnd (loadC [] (os.take j)) := loadC_nd List.Pairwise.nil
    refine WC.region ?_
    refine WL.y (Yl.index un90 sz94 rfl rfl (Reads.of (r := onsR (.slice a23 L.length c23) L) RdOf.own (by repeat constructor)) rfl (by omega)) rfl ?_
    refine WL.y (Yl.loadV (j := j) (u := e) vtOn (fun _ _ => trivial) rfl (Reads.of (r := onsR (.slice a23 L.length c23) L) RdOf.own (by repeat constructor)) rfl he) rfl ?_
    refine WL.to (To.alloc (cs := [.int .u8 0, .int .u8 0, .slice none 0 0]) zr94 rfl) rfl ?_
    intro b11
    refine WL.sto (Sto.agg sz94 rfl rfl (by repeat constructor) (onC_ones e) rfl (by rfl) (putAll rfl)) (fun _ h => nomatch h) ?_
    refine WL.nil ?_
    refine WC.seq ?_
    refine WC.seq ?_
    refine WC.region ?_
    refine WL.y (Yl.field fo94_2 rfl) rfl ?_
    refine WL.y (Yl.load on92 rfl (by repeat constructor) (by rfl)) rfl ?_
    refine WL.y (Yl.len un92 rfl) rfl ?_
    refine WL.y (Yl.move rfl) rfl ?_
    refine WL.nil ?_
    refine WC.block ?_
    refine WC.loop (α := Nat × Es) (fun p => [(0, xv), (8, .pointer (some ⟨b, 0, none⟩)), (35, .slice a23 L.length c23), (36, .int .i64 (L.length : Int)), (37, .int .i64 (j : Int)), (11, .pointer (some ⟨b11, 0, none⟩)), (42, (.slice e.2.1 e.1.l.length e.2.2)), (43, .int .i64 (e.1.l.length : Int)), (44, .int .i64 (p.1 : Int))]) (fun p => blkR b11 94 (onC e) :: onsR (.slice a23 L.length c23) L :: allR (L.map onR) :: bkL b ao cp mb acc own p.2) (fun p => p.1 ≤ e.1.l.length ∧ EG p.2 ∧ pj p.2 = learnsC (loadC [] (os.take j)) e.1.a (e.1.l.take p.1)) (fun p => e.1.l.length - p.1) (0, es) ⟨Nat.zero_le _, hE, hP⟩ ⟨(by repeat' constructor), _, (by repeat' constructor)⟩ ?_
    clear hE hP
    rintro ⟨i, es⟩ ⟨hi, hE, hP⟩
    dsimp only at hi hE hP ⊢
    refine WC.seq ?_
    refine WC.region ?_
    refine WL.y (Yl.lss rfl rfl) rfl ?_
    refine WL.nil ?_
    refine WC.seq ?_
    refine WC.condD rfl (fun g45 => ?_) (fun g45 => ?_)
    · refine WC.skip ?_
      refine WC.seq ?_
      refine WC.block ?_
      refine WC.seq ?_
      have hil : i < e.1.l.length := by omega
      obtain ⟨p, hp⟩ : ∃ p, e.1.l[i]? = some p := ⟨_, List.getElem?_eq_getElem hil⟩
      have hp4 := heok.d p (List.mem_of_getElem? hp)
      have hmay : mayF acc e.1.a (p.1 : Int) = 0 := by unfold mayF; rw [if_neg (by omega)]
      have hn2 := take_snocK hp
      refine WC.region ?_
      refine WL.y (Yl.index un92 sz97 rfl rfl (Reads.of (r := allR (L.map onR)) (RdOf.onE hem) (by repeat constructor)) rfl (by omega)) rfl ?_
      refine WL.y (Yl.loadV (j := i) (u := p) vtKn (fun _ _ => trivial) rfl (Reads.of (r := allR (L.map onR)) (RdOf.onE hem) (by repeat constructor)) rfl hp) rfl ?_
      refine WL.to (To.alloc (cs := knC (0, Ky.zero)) zr97 rfl) rfl ?_
      intro b13
      refine WL.sto (Sto.agg sz97 rfl rfl (by repeat constructor) (knC_ones p) (knC_len p) (by rfl) (putAll rfl)) (fun _ h => nomatch h) ?_
      refine WL.nil ?_
      refine WC.seq ?_
      refine WC.region ?_
      refine WL.y (Yl.move rfl) rfl ?_
      refine WL.y (Yl.field fo94_0 rfl) rfl ?_
      refine WL.y (Yl.load on5 rfl (by repeat constructor) (by rfl)) rfl ?_
      refine WL.y (Yl.field fo97_0 rfl) rfl ?_
      refine WL.y (Yl.load on5 rfl (by repeat constructor) (by rfl)) rfl ?_
      refine WL.y (Yl.build rfl (cs := [.int .u8 e.1.a, .int .u8 (p.1 : Int)]) (fun _ => by kernel_rfl)) rfl ?_
      refine WL.y (Yl.field fo97_1 rfl) rfl ?_
      refine WL.y (Yl.loadNP (T := 97) (cs := knC p) ag32 rfl (by repeat constructor) (by rw [knC_len]; omega) (knC_key p)) rfl ?_
      refine WL.callC (xs := [.tmp 49, .tmp 54, .tmp 56]) (cap := []) rfl rfl en6 (by repeat' constructor) (fun w hw => learn_any b ao cp mb acc own es hE e.1.a (by omega) p.1 hp4 p.2 hmay w hw.left.here) rfl ?_
      rintro es' ⟨hP', hE'⟩
      dsimp only [List.cons_append, List.nil_append]
      refine WL.y (Yl.move rfl) rfl ?_
      refine WL.y (Yl.extract rfl rfl) rfl ?_
      refine WL.y (Yl.extract rfl rfl) rfl ?_
      refine WL.y (Yl.assign rfl) rfl ?_
      refine WL.y (Yl.assign rfl) rfl ?_
      refine WL.nil ?_
      refine WC.seq ?_
      refine WC.region ?_
      refine WL.y (Yl.move rfl) rfl ?_
      refine WL.y (Yl.neq rfl rfl) rfl ?_
      refine WL.know (t := 61) (b' := false) rfl (by first | rfl | (simp; done) | (simp; omega)) ?_
      refine WL.nil ?_
      refine WC.condF rfl (by first | rfl | (simp; done) | (simp; omega)) ?_
      refine WC.skip ?_
      refine WC.region ?_
      refine WL.y (Yl.add rfl rfl (IntWalk.i64_in _ (by omega))) rfl ?_
      refine WL.y (Yl.move rfl) rfl ?_
      refine WL.nil ?_
      exact ⟨rfl, (i + 1, es'), ⟨by dsimp only; omega, hE', by dsimp only; rw [hP', hP, hn2, learnsC_snoc]⟩, by dsimp only; omega, (by repeat' constructor), _, (by repeat' constructor)⟩
    · refine WC.exit ?_
      refine WC.seq ?_
      refine WC.seq ?_
      have hil : i = e.1.l.length := by omega
      subst hil
      rw [List.take_length] at hP
      obtain ⟨jj, nb, c, hjj, p1, p2⟩ : ∃ (j nb : Nat) (c : Ct), es[j]? = some (e.1.a, nb, c) ∧ mget (pm es) e.1.a = some nb ∧ mget (pj es) e.1.a = some c := by
        rcases es_cases es e.1.a with ⟨_, h2⟩ | h2
        · exfalso
          rw [hP, mget_learns hnd, if_pos rfl] at h2
          have := learnsT_some (ps := e.1.l) (mget (loadC [] (os.take j)) e.1.a) (.inr hel.1)
          rw [h2] at this
          cases this
        · exact h2
      have hokc : c.ok := hE.ct _ (List.mem_of_getElem? hjj)
      have hjl2 := (List.getElem?_eq_some_iff.1 hjj).1
      refine WC.drawRead mixed (by kernel_rfl) ?_
      refine WH.y (Yl.move rfl) rfl ?_
      refine WH.y (Yl.nilCheck rfl) rfl ?_
      refine WH.y (Yl.field fo67_2 rfl) rfl ?_
      refine WH.y (Yl.load on65 rfl (by repeat constructor) (by rfl)) rfl ?_
      refine WH.y (Yl.field fo94_0 rfl) rfl ?_
      refine WH.y (Yl.load on5 rfl (by repeat constructor) (by rfl)) rfl ?_
      refine WH.y (Yl.lookup (kv := Value.int .u8) (vv := ptV) (m := pm es) (z := .pointer none) keyU8 un65 zPC hE.pmk rfl rfl (u8_wf (by omega)) (MReads.of (m := pm es) MapOf.own (by repeat constructor))) rfl ?_
      rw [p1]
      dsimp only [Option.map_some, Option.getD_some, ptV]
      refine WH.y (Yl.nilEq un68 rfl rfl) rfl ?_
      refine WH.know (t := 70) (b' := false) rfl (by first | rfl | (simp; done) | (simp; omega)) ?_
      refine WH.y (Yl.move rfl) rfl ?_
      refine WH.on rfl rfl ?_
      refine WH.y (Yl.field fo94_1 rfl) rfl ?_
      refine WH.on rfl rfl ?_
      refine WH.y (Yl.load on5 rfl (by repeat constructor) (by rfl)) rfl ?_
      refine WH.on rfl rfl ?_
      refine WH.y (Yl.lss rfl rfl) rfl ?_
      refine WH.know (t := 74) (b' := false) rfl (by first | rfl | (simp; done) | (simp; omega)) ?_
      refine WH.y (Yl.pickF rfl rfl) rfl ?_
      refine WH.y (Yl.move rfl) rfl ?_
      refine WH.on rfl rfl ?_
      refine WH.y (Yl.field fo94_1 rfl) rfl ?_
      refine WH.on rfl rfl ?_
      refine WH.y (Yl.load on5 rfl (by repeat constructor) (by rfl)) rfl ?_
      refine WH.on rfl rfl ?_
      refine WH.y (Yl.gtr rfl rfl) rfl ?_
      refine WH.know (t := 79) (b' := false) rfl (by first | rfl | (simp; done) | (simp; omega)) ?_
      refine WH.y (Yl.pickF rfl rfl) rfl ?_
      refine WH.nil ?_
      refine WC.condF rfl (by first | rfl | (simp; done) | (simp; omega)) ?_
      refine WC.skip ?_
      refine WC.view (fun w h => h.allOut (f := ctR) (by repeat constructor) hjj) ?_
      refine WC.drawTail 11 mixed (by kernel_rfl) ?_
      refine WH.y (Yl.move rfl) rfl ?_
      refine WH.y (Yl.nilCheck rfl) rfl ?_
      refine WH.y (Yl.field fo67_2 rfl) rfl ?_
      refine WH.y (Yl.load on65 rfl (by repeat constructor) (by rfl)) rfl ?_
      refine WH.y (Yl.field fo94_0 rfl) rfl ?_
      refine WH.y (Yl.load on5 rfl (by repeat constructor) (by rfl)) rfl ?_
      refine WH.y (Yl.lookup (kv := Value.int .u8) (vv := ptV) (m := pm es) (z := .pointer none) keyU8 un65 zPC hE.pmk rfl rfl (u8_wf (by omega)) (MReads.of (m := pm es) MapOf.own (by repeat constructor))) rfl ?_
      rw [p1]
      dsimp only [Option.map_some, Option.getD_some, ptV]
      refine WH.y (Yl.field fo94_1 rfl) rfl ?_
      refine WH.y (Yl.load on5 rfl (by repeat constructor) (by rfl)) rfl ?_
      refine WH.y (Yl.nilCheck rfl) rfl ?_
      refine WH.y (Yl.field fo70_2 rfl) rfl ?_
      refine WH.nil ?_
      refine WP.sto (Sto.oneP (T := 70) (cs := c.cells) sz5 rfl rfl (by repeat constructor) rfl (by rw [Ct.len hokc]; omega) (Ct.setSt hokc e.1.st)) (fun _ h => nomatch h) ?_
      refine WP.nil ?_
      have hs := hE.set hjj (c' := { c with st := e.1.st }) ⟨hokc.kl, hokc.hl⟩
      have hPn : pj (es.set jj (e.1.a, nb, { c with st := e.1.st })) = loadC [] (os.take (j + 1)) := by
        rw [hs.2, hnx, loadC_snoc, ← hP]
        unfold setSt
        rw [p2]
      refine WC.view (fun w h => OK.allIn (f := ctR) (l := es) (i := jj) (x := (e.1.a, nb, { c with st := e.1.st })) h (by repeat' constructor) hjl2) ?_
      rw [← pm_same (c' := { c with st := e.1.st }) hjj]
      refine WC.region ?_
      refine WL.y (Yl.add rfl rfl (IntWalk.i64_in _ (by omega))) rfl ?_
      refine WL.y (Yl.move rfl) rfl ?_
      refine WL.nil ?_
      exact ⟨rfl, (j + 1, es.set jj (e.1.a, nb, { c with st := e.1.st })), ⟨by dsimp only; omega, hs.1, hPn⟩, by dsimp only; omega, (by repeat' constructor), _, (by repeat' constructor)⟩
  · refine WC.exit ?_
    refine WC.seq ?_
    refine WC.seq ?_
    have hjl : j = L.length := by omega
    subst hjl
    rw [hLl, List.take_length] at hP
    have hS3 : Same acc (pj es) C := by rw [hP]; exact hS2
    have ho3 : osOf (pj es) = os := by rw [hP]; exact hso
    have hby := fun w h => bytes_any b ao cp mb acc own hl.2 es hE C hS3 w h
    rw [ho3, hXX] at hby
    refine WC.region ?_
    refine WL.y (Yl.move rfl) rfl ?_
    refine WL.callC (xs := [.tmp 93]) (cap := []) rfl rfl en18 (by repeat' constructor) (fun w hw => hby w hw.left.here) rfl ?_
    rintro ⟨a94, c94⟩ -
    refine WL.y (Yl.move rfl) rfl ?_
    refine WL.callC (xs := [.tmp 94, .tmp 95]) (cap := []) rfl rfl en47 (by repeat' constructor) (fun w hw => equal_any X X (.slice a94 X.length c94) xv hBX hBX w (hw.src (A := []) (r := ownR (.slice a94 X.length c94) 5 1 X.length (ints .u8 X)) RdOf.own (by repeat constructor)) (hw.srcS (A := []) hx) hw.left.here) rfl ?_
    rintro ⟨⟩ -
    refine WL.y (Yl.not rfl) rfl ?_
    refine WL.know (t := 97) (b' := false) rfl (by simp) ?_
    refine WL.nil ?_
    refine WC.condF rfl (by first | rfl | (simp; done) | (simp; omega)) ?_
    refine WC.skip ?_
    refine WC.seq ?_
    refine WC.region ?_
    refine WL.y (Yl.move rfl) rfl ?_
    refine WL.y (Yl.assign rfl) rfl ?_
    refine WL.y (Yl.assign rfl) rfl ?_
    refine WL.nil ?_
    refine WC.ret ?_
    repeat (with_reducible (first | refine peelT ?_ | refine peelB ?_ | refine peelTX ?_ | refine peelBX ?_ | refine peelBN ?_ | refine peelBO rfl ?_))
    exact ret2 (.inr rfl) Tryz.results17 rfl rfl fun w' h => ⟨(b, (ao, cp), mb, es), ⟨hE, hP⟩, rfl, h.sub (by repeat' constructor)⟩
end Go.Proofs.YtcplbkbimpiioaaGreatDoor
