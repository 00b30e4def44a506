/- The digits of keys; the number of two texts: the walks. -/
import Derived.Test.YtcplbkbimpiioaaGreatDoorTruC
import Derived.Test.YtcplbkbimpiioaaGreatDoorTruF
import Derived.Test.YtcplbkbimpiioaaGreatDoorTerA
namespace Go.Proofs.YtcplbkbimpiioaaGreatDoor
open Go Go.RowKit
theorem number_any (a b : List Int) (ha : Bytes a) (hb : Bytes b) (hl : a.length + b.length ≤ 1000000) (w : World) (hw : OK w (fpL []) [] w) :
    Fn Tryz.prog 30 [.string (strOfNums a), .string (strOfNums b)] [] w (fun _ : Unit => True) (fun _ => .string (strOfNums (numF a b))) (fun _ => []) := by
  refine enterF Tryz.func30 rfl Tryz.ntmps30 rfl hw ?_
  refine WC.seq ?_
  refine WC.region ?_
  refine WL.y (Yl.assign rfl) rfl ?_
  refine WL.nil ?_
  refine WC.seq ?_
  refine WC.region ?_
  refine WL.y (Yl.move rfl) rfl ?_
  refine WL.y (Yl.move rfl) rfl ?_
  refine WL.y (Yl.sMin ha hb rfl rfl rfl) rfl ?_
  refine WL.y (Yl.move rfl) rfl ?_
  refine WL.y (Yl.move rfl) rfl ?_
  refine WL.y (Yl.sMax ha hb rfl rfl rfl) rfl ?_
  refine WL.y (Yl.sAdd (by split <;> split <;> omega) rfl rfl) rfl ?_
  refine WL.y (Yl.assign rfl) rfl ?_
  refine WL.nil ?_
  refine WC.ret ?_
  repeat (with_reducible (first | refine peelT ?_ | refine peelB ?_ | refine peelTX ?_ | refine peelBX ?_ | refine peelBN ?_ | refine peelBO rfl ?_))
  have e : (if lexF a b ≤ 0 then a else b) ++ (if lexF a b < 0 then b else a) = numF a b := by
    have hn := lexF_neg a b
    unfold numF
    by_cases h1 : lexF b a < 0
    · rw [if_neg (by omega), if_neg (by omega), if_pos h1]
    · rw [if_pos (by omega), if_neg h1]
      by_cases h2 : lexF a b < 0
      · rw [if_pos h2]
      · rw [if_neg h2, lexF_eq (show lexF a b = 0 by omega)]
  rw [e]
  exact ret1 (.inr rfl) Tryz.results30 rfl fun w' h => ⟨(), trivial, rfl, h.sub (by repeat' constructor)⟩
theorem hls2 {w : World} {T : Pm} {v1 v2 : Value} {b1 b2 : List Int} (h1 : RdS w T v1 1 b1.length (ints .u8 b1)) (h2 : RdS w T v2 1 b2.length (ints .u8 b2)) : ∀ (i : Nat) (v' : Value) (c' : List Int), [v1, v2][i]? = some v' → [b1, b2][i]? = some c' → RdS w T v' 1 c'.length (ints .u8 c') := by
  intro i v' c' g1 g2
  match i with
  | 0 => simp at g1 g2; subst g1 g2; exact h1
  | 1 => simp at g1 g2; subst g1 g2; exact h2
  | n + 2 => simp at g1
theorem hls3 {w : World} {T : Pm} {v1 v2 v3 : Value} {b1 b2 b3 : List Int} (h1 : RdS w T v1 1 b1.length (ints .u8 b1)) (h2 : RdS w T v2 1 b2.length (ints .u8 b2)) (h3 : RdS w T v3 1 b3.length (ints .u8 b3)) : ∀ (i : Nat) (v' : Value) (c' : List Int), [v1, v2, v3][i]? = some v' → [b1, b2, b3][i]? = some c' → RdS w T v' 1 c'.length (ints .u8 c') := by
  intro i v' c' g1 g2
  match i with
  | 0 => simp at g1 g2; subst g1 g2; exact h1
  | 1 => simp at g1 g2; subst g1 g2; exact h2
  | 2 => simp at g1 g2; subst g1 g2; exact h3
  | n + 3 => simp at g1
theorem hashK_step (acc : Int) (l : List Ky) (n : Nat) : sum512 ([hashK acc l n, allK l] : List (List Int)).flatten = hashK acc l (n + 1) := rfl
theorem sum512_by (msg : List Int) : Bytes (sum512 msg) := by
  intro y hy
  unfold sum512 sumF dgF at hy
  obtain ⟨l, hl, hy⟩ := List.mem_flatten.1 hy
  obtain ⟨a, _, rfl⟩ := List.mem_map.1 hl
  obtain ⟨t, _, rfl⟩ := List.mem_map.1 hy
  rw [IntKind.wrap_u8]; omega
theorem sum_by (m : List Int) : Bytes (sum512 m) := sum512_by m
theorem hashK_by (acc : Int) (l : List Ky) (n : Nat) : Bytes (hashK acc l n) := by
  cases n with
  | zero => exact sum_by _
  | succ n => exact sum_by _
set_option maxHeartbeats 1600000 in
set_option maxRecDepth 100000 in
theorem digits_any (acc : Int) (v : Value) (xs : List Ky) (hl : xs.length ≤ 12) (w : World) (hx : RdS w (fpL []) v 32 xs.length (vcs kyV xs)) (hw : OK w (fpL []) [] w) :
    Fn Tryz.prog 31 [.int .u8 acc, v] [] w (fun _ : Unit => True) (fun _ => .string (strOfNums (digF acc xs))) (fun _ => []) := by
  have hsl := setK_len xs
  unfold digF
  obtain ⟨S, hS⟩ : ∃ S, setK xs = S := ⟨_, rfl⟩
  rw [hS] at hsl ⊢
  have hSl : S.length ≤ 12 := by omega
  refine enterF Tryz.func31 rfl Tryz.ntmps31 rfl hw ?_
  refine WC.seq ?_
  refine WC.region ?_
  refine WL.y (Yl.assign rfl) rfl ?_
  refine WL.nil ?_
  refine WC.seq ?_
  refine WC.region ?_
  refine WL.y (Yl.assign rfl) rfl ?_
  refine WL.nil ?_
  refine WC.seq ?_
  refine WC.seq ?_
  refine WC.region ?_
  refine WL.y (Yl.move rfl) rfl ?_
  refine WL.callC (xs := [.tmp 15]) (cap := []) rfl rfl en24 (by repeat' constructor) (fun w hw => hS ▸ set_any v xs (by omega) w (hw.srcS (A := []) hx) hw.left.here) rfl ?_
  rintro ⟨ao, cp⟩ -
  refine WL.y (Yl.len un22 rfl) rfl ?_
  refine WL.y (Yl.move rfl) rfl ?_
  refine WL.nil ?_
  refine WC.block ?_
  refine WC.view (fun w h => h.addNil 5 1) ?_
  refine WC.loop (α := Nat × (Option Addr × Nat)) (fun p => [(0, .int .u8 acc), (5, .slice p.2.1 (allK (S.take p.1)).length p.2.2), (16, .slice ao S.length cp), (17, .int .i64 (S.length : Int)), (18, .int .i64 (p.1 : Int))]) (fun p => [rwK (.slice ao S.length cp) S.length S, ownR (.slice p.2.1 (allK (S.take p.1)).length p.2.2) 5 1 (allK (S.take p.1)).length (ints .u8 (allK (S.take p.1)))]) (fun p => p.1 ≤ S.length) (fun p => S.length - p.1) (0, none, 0) (Nat.zero_le _) ⟨(by repeat' constructor), _, (by repeat' constructor)⟩ ?_
  rintro ⟨i, a5, c5⟩ hi
  dsimp only at hi ⊢
  refine WC.seq ?_
  refine WC.region ?_
  refine WL.y (Yl.lss rfl rfl) rfl ?_
  refine WL.nil ?_
  refine WC.seq ?_
  refine WC.condD rfl (fun g19 => ?_) (fun g19 => ?_)
  · refine WC.skip ?_
    refine WC.seq ?_
    refine WC.block ?_
    refine WC.seq ?_
    refine WC.region ?_
    have hil : i < S.length := by omega
    obtain ⟨k, hk⟩ : ∃ k, S[i]? = some k := ⟨_, List.getElem?_eq_getElem hil⟩
    have hnx := allK_next hk
    have hal := allK_len (S.take i)
    have hal2 := allK_len (S.take (i + 1))
    rw [List.length_take, Nat.min_eq_left (by omega)] at hal hal2
    refine WL.y (Yl.index un22 sz32 rfl rfl (Reads.of (r := rwK (.slice ao S.length cp) S.length S) RdOf.own (by repeat constructor)) rfl (by omega)) rfl ?_
    refine WL.y (Yl.loadV (j := i) (u := k) vtK (fun _ _ => trivial) rfl (Reads.of (r := rwK (.slice ao S.length cp) S.length S) RdOf.own (by repeat constructor)) rfl hk) rfl ?_
    refine WL.to (To.alloc (cs := ints .u8 (List.replicate 32 0)) zr32 rfl) rfl ?_
    intro b7
    refine WL.sto (Sto.agg sz32 rfl rfl (by repeat constructor) (ints_one _ _) k.clen (by rfl) (putAll rfl)) (fun _ h => nomatch h) ?_
    refine WL.nil ?_
    refine WC.region ?_
    refine WL.y (Yl.move rfl) rfl ?_
    refine WL.y (Yl.sliceArr un32 sz5 (by decide) rfl) rfl ?_
    refine WL.to (To.append sl54 rfl rfl (by repeat constructor) (Reads.of (RdOf.blk (size := 1) (n := 32) (cs := k.cells) (cs' := ints .u8 k.b) (Nat.le_refl _) (by unfold maxLen; omega) (by rw [k.clen]; omega) (by rw [List.drop_zero, List.take_of_length_le (by rw [k.clen]; omega)]; rfl)) (by repeat constructor)) (ints_one _ _) (show (allK (S.take i)).length + 32 = (allK (S.take (i + 1))).length by omega) (show ints .u8 (allK (S.take i)) ++ ints .u8 k.b = ints .u8 (allK (S.take (i + 1))) by rw [hnx, ints_append]) (by unfold maxLen; omega) (by omega)) rfl ?_
    rintro ⟨⟨ao24, c24⟩, hc24⟩
    dsimp only at hc24 ⊢
    refine WL.y (Yl.assign rfl) rfl ?_
    refine WL.nil ?_
    refine WC.region ?_
    refine WL.y (Yl.add rfl rfl (IntWalk.i64_in _ (by omega))) rfl ?_
    refine WL.y (Yl.move rfl) rfl ?_
    refine WL.nil ?_
    exact ⟨rfl, (i + 1, ao24, c24), by dsimp only; omega, by dsimp only; omega, (by repeat' constructor), _, (by repeat' constructor)⟩
  · refine WC.exit ?_
    refine WC.seq ?_
    have hil : i = S.length := by omega
    subst hil
    rw [List.take_length]
    have hal := allK_len S
    refine WC.region ?_
    refine WL.to (To.buildSlice (vs := [.int .u8 0, .int .u8 0]) un54 zs5 rfl rfl (by simp [Value.cells]) (by decide) (by decide)) rfl ?_
    intro b26
    refine WL.y (Yl.move rfl) rfl ?_
    refine WL.y (Yl.move rfl) rfl ?_
    refine WL.to (To.buildSlice (vs := [.int .u8 acc]) un54 zs5 rfl rfl (by simp [Value.cells]) (by decide) (by decide)) rfl ?_
    intro b29
    refine WL.to (To.buildSlice (vs := [.slice (some ⟨b26, 0, none⟩) 2 2, .slice a5 (allK S).length c5, .slice (some ⟨b29, 0, none⟩) 1 1]) un150 zs54 rfl rfl (by simp [Value.cells]) (by decide) (by decide)) rfl ?_
    intro b30
    refine WL.callC (xs := [.tmp 30]) (cap := []) rfl rfl en64 (by repeat' constructor) (fun w hw => sum512_any [[0, 0], allK S, [acc]] [.slice (some ⟨b26, 0, none⟩) 2 2, .slice a5 (allK S).length c5, .slice (some ⟨b29, 0, none⟩) 1 1] (.slice (some ⟨b30, 0, none⟩) 3 3) rfl (by simp; omega) (by simp) w (hw.src (A := []) (RdOf.blk (size := 1) (cs := [.slice (some ⟨b26, 0, none⟩) 2 2, .slice a5 (allK S).length c5, .slice (some ⟨b29, 0, none⟩) 1 1]) (Nat.le_refl _) (by unfold maxLen; omega) (by simp) rfl) (by repeat constructor)) (hls3 (hw.src (A := []) (RdOf.blk (size := 1) (n := 2) (cs := [.int .u8 0, .int .u8 0]) (cs' := ints .u8 [0, 0]) (Nat.le_refl _) (by unfold maxLen; omega) (by simp) rfl) (by repeat constructor)) (hw.src (A := []) (r := ownR (.slice a5 (allK S).length c5) 5 1 (allK S).length (ints .u8 (allK S))) RdOf.own (by repeat constructor)) (hw.src (A := []) (RdOf.blk (size := 1) (n := 1) (cs := [.int .u8 acc]) (cs' := ints .u8 [acc]) (Nat.le_refl _) (by unfold maxLen; omega) (by simp) rfl) (by repeat constructor))) hw.left.here) rfl ?_
    rintro ⟨⟩ -
    refine WL.to (To.alloc (cs := ints .u8 (List.replicate 64 0)) zr117 rfl) rfl ?_
    intro b8
    refine WL.sto (Sto.agg sz117 rfl rfl (by repeat constructor) (ints_one _ _) (by rw [ints_length, sum512_len]) (by rfl) (putAll rfl)) (fun _ h => nomatch h) ?_
    refine WL.nil ?_
    refine WC.seq ?_
    refine WC.seq ?_
    refine WC.region ?_
    refine WL.y (Yl.move rfl) rfl ?_
    refine WL.nil ?_
    refine WC.block ?_
    refine WC.loop (α := Nat) (fun i => [(5, .slice a5 (allK S).length c5), (8, .pointer (some ⟨b8, 0, none⟩)), (32, .int .i64 (i : Int))]) (fun i => [ownR (.slice a5 (allK S).length c5) 5 1 (allK S).length (ints .u8 (allK S)), blkR b8 117 (ints .u8 (hashK acc S i))]) (fun i => i ≤ 32) (fun i => 32 - i) 0 (by omega) ⟨(by repeat' constructor), _, (by repeat' constructor)⟩ ?_
    intro i hi
    have hhl := hashK_len acc S i
    refine WC.seq ?_
    refine WC.region ?_
    refine WL.y (Yl.lss rfl rfl) rfl ?_
    refine WL.nil ?_
    refine WC.seq ?_
    refine WC.condD rfl (fun g33 => ?_) (fun g33 => ?_)
    · refine WC.skip ?_
      refine WC.seq ?_
      refine WC.block ?_
      refine WC.region ?_
      refine WL.y (Yl.sliceArr un117 sz5 (by decide) rfl) rfl ?_
      refine WL.y (Yl.move rfl) rfl ?_
      refine WL.to (To.buildSlice (vs := [.slice (some ⟨b8, 0, none⟩) 64 64, .slice a5 (allK S).length c5]) un150 zs54 rfl rfl (by simp [Value.cells]) (by decide) (by decide)) rfl ?_
      intro b36
      skip
      refine WL.callC (xs := [.tmp 36]) (cap := []) rfl rfl en64 (by repeat' constructor) (fun w hw => sum512_any [hashK acc S i, allK S] [.slice (some ⟨b8, 0, none⟩) 64 64, .slice a5 (allK S).length c5] (.slice (some ⟨b36, 0, none⟩) 2 2) rfl (by simp; omega) (by simp) w (hw.src (A := []) (RdOf.blk (size := 1) (cs := [.slice (some ⟨b8, 0, none⟩) 64 64, .slice a5 (allK S).length c5]) (Nat.le_refl _) (by unfold maxLen; omega) (by simp) rfl) (by repeat constructor)) (hls2 (by rw [hhl]; exact hw.src (A := []) (RdOf.blk (b := b8) (T := 117) (size := 1) (n := 64) (cs := ints .u8 (hashK acc S i)) (cs' := ints .u8 (hashK acc S i)) (Nat.le_refl _) (by unfold maxLen; omega) (by rw [ints_length]; omega) (by rw [List.drop_zero, List.take_of_length_le (by rw [ints_length]; omega)])) (by repeat constructor)) (hw.src (A := []) (r := ownR (.slice a5 (allK S).length c5) 5 1 (allK S).length (ints .u8 (allK S))) RdOf.own (by repeat constructor))) hw.left.here) rfl ?_
      rintro ⟨⟩ -
      rw [hashK_step]
      refine WL.sto (Sto.agg sz117 rfl rfl (by repeat constructor) (ints_one _ _) (by rw [ints_length, hashK_len]) (by rw [ints_length, hhl]; rfl) (putAll (by rw [ints_length, hhl]))) (fun _ h => nomatch h) ?_
      refine WL.nil ?_
      refine WC.region ?_
      refine WL.y (Yl.add rfl rfl (IntWalk.i64_in _ (by omega))) rfl ?_
      refine WL.y (Yl.move rfl) rfl ?_
      refine WL.nil ?_
      exact ⟨rfl, i + 1, by omega, by omega, (by repeat' constructor), _, (by repeat' constructor)⟩
    · refine WC.exit ?_
      refine WC.seq ?_
      have hi32 : i = 32 := by omega
      subst hi32
      have hhb := hashK_by acc S 32
      obtain ⟨h, hh⟩ : ∃ h, hashK acc S 32 = h := ⟨_, rfl⟩
      rw [hh] at hhl hhb ⊢
      refine WC.region ?_
      refine WL.to (To.alloc (cs := [.pointer none, .slice none 0 0]) zr121 rfl) rfl ?_
      intro b9
      refine WL.nil ?_
      refine WC.seq ?_
      refine WC.seq ?_
      refine WC.region ?_
      refine WL.y (Yl.move rfl) rfl ?_
      refine WL.nil ?_
      refine WC.block ?_
      refine WC.view (fun w h => h.addNil 5 1) ?_
      refine WC.loop (α := Nat × Bool × (Option Addr × Nat)) (fun p => [(8, .pointer (some ⟨b8, 0, none⟩)), (9, .pointer (some ⟨b9, 0, none⟩)), (39, .int .i64 (p.1 : Int))]) (fun p => bdR b9 p.2.1 p.2.2 (digG h p.1) ++ [blkR b8 117 (ints .u8 h)]) (fun p => p.1 ≤ 6 ∧ (0 < p.1 → p.2.1 = true)) (fun p => 6 - p.1) (0, false, none, 0) ⟨by dsimp only; omega, fun h => absurd h (Nat.lt_irrefl _)⟩ ⟨(by repeat' constructor), _, (by repeat' constructor)⟩ ?_
      rintro ⟨i, u, x9⟩ ⟨hi, hu⟩
      dsimp only [List.cons_append, List.nil_append]
      dsimp only at hi hu
      have hgl := digG_len h i
      refine WC.seq ?_
      refine WC.region ?_
      refine WL.y (Yl.lss rfl rfl) rfl ?_
      refine WL.nil ?_
      refine WC.seq ?_
      refine WC.condD rfl (fun g40 => ?_) (fun g40 => ?_)
      · refine WC.skip ?_
        refine WC.seq ?_
        refine WC.block ?_
        refine WC.seq ?_
        refine WC.region ?_
        refine WL.y (Yl.move rfl) rfl ?_
        refine WL.y (Yl.assign rfl) rfl ?_
        refine WL.nil ?_
        refine WC.seq ?_
        refine WC.region ?_
        refine WL.y (Yl.assign rfl) rfl ?_
        refine WL.nil ?_
        refine WC.seq ?_
        refine WC.seq ?_
        refine WC.region ?_
        refine WL.y (Yl.move rfl) rfl ?_
        have hi6 : i < 6 := by omega
        refine WL.y (Yl.mul rfl rfl (IntWalk.i64_in _ (by omega))) rfl ?_
        refine WL.y (Yl.move rfl) rfl ?_
        refine WL.y (Yl.add rfl rfl (IntWalk.i64_in _ (by omega))) rfl ?_
        refine WL.y (Yl.mul rfl rfl (IntWalk.i64_in _ (by omega))) rfl ?_
        refine WL.y (Yl.sliceArrLH (l := 5 * i) (h := 5 * i + 5) un117 sz5 (by decide) rfl rfl rfl (by omega) (by omega) (by omega) (by omega) (by omega)) rfl ?_
        refine WL.y (Yl.len un54 rfl) rfl ?_
        refine WL.say (t := 48) (v' := .int .i64 ((5 : Nat) : Int)) rfl (by (refine congrArg _ ?_; omega)) ?_
        refine WL.y (Yl.move rfl) rfl ?_
        refine WL.nil ?_
        refine WC.block ?_
        refine WC.loop (α := Nat) (fun j => [(8, .pointer (some ⟨b8, 0, none⟩)), (9, .pointer (some ⟨b9, 0, none⟩)), (39, .int .i64 (i : Int)), (11, .int .u64 (val ((h.drop (5 * i)).take j))), (47, .slice (some ⟨b8, 0 + 5 * i * 1, none⟩) (5 * i + 5 - 5 * i) (64 - 5 * i)), (48, .int .i64 ((5 : Nat) : Int)), (49, .int .i64 (j : Int))]) (fun _ => bdR b9 u x9 (digG h i) ++ [blkR b8 117 (ints .u8 h)]) (fun j => j ≤ 5) (fun j => 5 - j) 0 (by omega) ⟨(by repeat' constructor), _, (by repeat' constructor)⟩ ?_
        intro j hj
        have hvl : ((h.drop (5 * i)).take j).length = j := by rw [List.length_take, List.length_drop]; omega
        have hvb : Bytes ((h.drop (5 * i)).take j) := (hhb.drop _).take _
        have hv := val_range hvb
        rw [hvl] at hv
        refine WC.seq ?_
        refine WC.region ?_
        refine WL.y (Yl.lss rfl rfl) rfl ?_
        refine WL.nil ?_
        refine WC.seq ?_
        refine WC.condD rfl (fun g50 => ?_) (fun g50 => ?_)
        · refine WC.skip ?_
          refine WC.seq ?_
          refine WC.block ?_
          refine WC.seq ?_
          refine WC.region ?_
          have hj5 : j < 5 := by omega
          obtain ⟨y, hy⟩ : ∃ y, (h.drop (5 * i))[j]? = some y := ⟨_, List.getElem?_eq_getElem (by rw [List.length_drop]; omega)⟩
          have hyb : 0 ≤ y ∧ y < 256 := (hhb.drop _) y (List.mem_of_getElem? hy)
          have hvn : val ((h.drop (5 * i)).take (j + 1)) = val ((h.drop (5 * i)).take j) * 256 + y := by rw [take_snocK hy, val_snoc]
          have hv5 : val ((h.drop (5 * i)).take j) < 4294967296 := by
            have : (256 : Int) ^ j ≤ 256 ^ 4 := by
              have h4 : j ≤ 4 := by omega
              exact_mod_cast Nat.pow_le_pow_right (by decide) h4
            have h5 : (256 : Int) ^ 4 = 4294967296 := by decide
            omega
          have hrd : RdOf (blkR b8 117 (ints .u8 h)) (.slice (some ⟨b8, 0 + 5 * i * 1, none⟩) (5 * i + 5 - 5 * i) (64 - 5 * i)) 1 (5 * i + 5 - 5 * i) (ints .u8 ((h.drop (5 * i)).take 5)) := RdOf.blk (by omega) (by unfold maxLen; omega) (by rw [ints_length, hhl]; omega) (by rw [ints_drop, ints_take, show 0 + 5 * i * 1 = 5 * i by omega, show (5 * i + 5 - 5 * i) * 1 = 5 by omega])
          have hy2 : ((h.drop (5 * i)).take 5)[j]? = some y := by rw [List.getElem?_take, if_pos (by omega), hy]
          refine WL.y (Yl.index un54 sz5 rfl rfl (Reads.of hrd (by repeat constructor)) rfl (by omega)) rfl ?_
          refine WL.y (Yl.loadE on5 rfl (Reads.of hrd (by repeat constructor)) (u := .int .u8 y) (by unfold ints; rw [List.getElem?_map, hy2]; rfl)) rfl ?_
          refine WL.y (Yl.assign rfl) rfl ?_
          refine WL.nil ?_
          refine WC.region ?_
          refine WL.y (Yl.move rfl) rfl ?_
          refine WL.y (Yl.shl rfl rfl ⟨by omega, by decide⟩ (sh8 _ hv.1 (by omega))) rfl ?_
          refine WL.y (Yl.move rfl) rfl ?_
          refine WL.y (Yl.conv un5 un122 rfl (u64_in _ (by omega))) rfl ?_
          refine WL.y (Yl.or rfl rfl) rfl ?_
          refine WL.say (t := 57) (v' := .int .u64 (val ((h.drop (5 * i)).take (j + 1)))) rfl (by (rw [or_byte _ _ hv.1 (by omega) hyb, hvn])) ?_
          refine WL.y (Yl.assign rfl) rfl ?_
          refine WL.nil ?_
          refine WC.region ?_
          refine WL.y (Yl.add rfl rfl (IntWalk.i64_in _ (by omega))) rfl ?_
          refine WL.y (Yl.move rfl) rfl ?_
          refine WL.nil ?_
          exact ⟨rfl, j + 1, by omega, by omega, (by repeat' constructor), _, (by repeat' constructor)⟩
        · refine WC.exit ?_
          refine WC.seq ?_
          have hj5 : j = 5 := by omega
          subst hj5
          refine WC.region ?_
          refine WL.y (Yl.move rfl) rfl ?_
          refine WL.y (Yl.rem (r := grp h i) rfl rfl (by decide) (by unfold grp; exact Int.tmod_eq_emod_of_nonneg hv.1)) rfl ?_
          refine WL.y (Yl.assign rfl) rfl ?_
          refine WL.nil ?_
          refine WC.seq ?_
          have hg : 0 ≤ grp h i ∧ grp h i < 100000 := by unfold grp; omega
          refine WC.region ?_
          refine WL.y (Yl.assign rfl) rfl ?_
          refine WL.nil ?_
          refine WC.block ?_
          rw [show bdR b9 u x9 (digG h i) = bdR b9 u x9 (digG h i ++ digJ (grp h i) 0) by rw [show digJ (grp h i) 0 = [] from rfl, List.append_nil]]
          refine WC.loop (α := Nat × Bool × (Option Addr × Nat)) (fun p => [(8, .pointer (some ⟨b8, 0, none⟩)), (9, .pointer (some ⟨b9, 0, none⟩)), (39, .int .i64 (i : Int)), (11, .int .u64 (grp h i)), (14, .int .u64 (dv p.1))]) (fun p => bdR b9 p.2.1 p.2.2 (digG h i ++ digJ (grp h i) p.1) ++ [blkR b8 117 (ints .u8 h)]) (fun p => p.1 ≤ 5 ∧ (0 < i ∨ 0 < p.1 → p.2.1 = true)) (fun p => 5 - p.1) (0, u, x9) ⟨by dsimp only; omega, fun h => hu (by omega)⟩ ⟨(by repeat' constructor), _, (by repeat' constructor)⟩ ?_
          rintro ⟨j, u, x9⟩ ⟨hj, hu⟩
          dsimp only [List.cons_append, List.nil_append]
          dsimp only at hj hu
          have hjl := digJ_len (grp h i) j
          have hdl := dv_le j
          refine WC.seq ?_
          refine WC.seq ?_
          refine WC.region ?_
          refine WL.y (Yl.move rfl) rfl ?_
          refine WL.y (Yl.gtr rfl rfl) rfl ?_
          refine WL.nil ?_
          refine WC.condD rfl (fun g62 => ?_) (fun g62 => ?_)
          · refine WC.skip ?_
            refine WC.seq ?_
            refine WC.block ?_
            refine WC.region ?_
            have hj5 : j < 5 := by
              have := g62
              rcases Nat.lt_or_ge j 5 with h5 | h5
              · exact h5
              · exfalso
                have e : j = 5 := by omega
                subst e
                exact absurd g62 (by decide)
            have hdp := dv_pos hj5
            have hq0 := Int.ediv_nonneg hg.1 (Int.le_of_lt hdp)
            have hql := Int.ediv_le_self (dv j) hg.1
            refine WL.y (Yl.move rfl) rfl ?_
            refine WL.y (Yl.move rfl) rfl ?_
            refine WL.y (Yl.quo (r := grp h i / dv j) rfl rfl (by omega) (by rw [Int.tdiv_eq_ediv_of_nonneg hg.1]; exact u64_in _ (by omega))) rfl ?_
            refine WL.y (Yl.rem (r := grp h i / dv j % 10) rfl rfl (by decide) (Int.tmod_eq_emod_of_nonneg hq0)) rfl ?_
            refine WL.y (Yl.conv un122 un5 rfl (show IntKind.u8.wrap (grp h i / dv j % 10) = grp h i / dv j % 10 by rw [IntKind.wrap_u8]; omega)) rfl ?_
            refine WL.y (Yl.add rfl rfl rfl) rfl ?_
            refine WL.say (t := 70) (v' := .int .u8 (48 + grp h i / dv j % 10)) rfl (by (refine congrArg _ ?_; rw [IntKind.wrap_u8]; omega)) ?_
            refine WL.callC (xs := [.tmp 9, .tmp 70]) (cap := []) rfl rfl en65 (by repeat' constructor) (fun w hw => wb_any b9 u x9 (digG h i ++ digJ (grp h i) j) (48 + grp h i / dv j % 10) (by rw [List.length_append]; omega) w hw.left.here) rfl ?_
            rintro x10 -
            rw [List.append_assoc, ← digJ_next]
            refine WL.nil ?_
            refine WC.region ?_
            refine WL.y (Yl.move rfl) rfl ?_
            refine WL.y (Yl.quo (r := dv (j + 1)) rfl rfl (by decide) (by rw [Int.tdiv_eq_ediv_of_nonneg hdl.1, dv_next hj5]; exact u64_in _ (by have := dv_le (j + 1); omega))) rfl ?_
            refine WL.y (Yl.assign rfl) rfl ?_
            refine WL.nil ?_
            exact ⟨rfl, (j + 1, true, x10), ⟨by dsimp only; omega, fun _ => rfl⟩, by dsimp only; omega, (by repeat' constructor), _, (by repeat' constructor)⟩
          · refine WC.exit ?_
            have hj5 : j = 5 := by
              rcases Nat.lt_or_ge j 5 with h5 | h5
              · have := dv_pos h5
                exact absurd this g62
              · omega
            subst hj5
            rw [← digG_next]
            refine WC.region ?_
            refine WL.y (Yl.add rfl rfl (IntWalk.i64_in _ (by omega))) rfl ?_
            refine WL.y (Yl.move rfl) rfl ?_
            refine WL.nil ?_
            exact ⟨rfl, (i + 1, u, x9), ⟨by dsimp only; omega, fun _ => hu (by omega)⟩, by dsimp only; omega, (by repeat' constructor), _, (by repeat' constructor)⟩
      · refine WC.exit ?_
        refine WC.seq ?_
        have hi6 : i = 6 := by omega
        subst hi6
        obtain rfl : u = true := hu (by omega)
        refine WC.region ?_
        refine WL.callC (xs := [.tmp 9]) (cap := []) rfl rfl en66 (by repeat' constructor) (fun w hw => str_any b9 x9 (digG h 6) (digG_dig h 6).bytes (by omega) w hw.left.here) rfl ?_
        rintro ⟨⟩ -
        refine WL.y (Yl.assign rfl) rfl ?_
        refine WL.nil ?_
        refine WC.ret ?_
        repeat (with_reducible (first | refine peelT ?_ | refine peelB ?_ | refine peelTX ?_ | refine peelBX ?_ | refine peelBN ?_ | refine peelBO rfl ?_))
        exact ret1 (.inr rfl) Tryz.results31 rfl fun w' h => ⟨(), trivial, rfl, h.sub (by repeat' constructor)⟩
end Go.Proofs.YtcplbkbimpiioaaGreatDoor
