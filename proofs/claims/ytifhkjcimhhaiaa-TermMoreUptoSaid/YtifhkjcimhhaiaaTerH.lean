/- Terms: size, Number, Parts, two: the walks. -/
import Derived.Test.YtifhkjcimhhaiaaTerE
import Derived.Test.YtifhkjcimhhaiaaLibJ
import Derived.Test.YtifhkjcimhhaiaaLibLs
import Derived.Test.YtifhkjcimhhaiaaLibR
namespace Go.Proofs.Ytifhkjcimhhaiaa
open Go Go.RowKit
theorem len_encs (fs : List Tm) : fs.length ≤ (encs fs).length := by
  induction fs with
  | nil => simp
  | cons t fs ih =>
    have := enc_pos t
    rw [encs_cons, List.length_append, List.length_cons]
    omega
theorem size_any (t : Tm) (ht : t.ok) (r : List Int) (hr : Bytes r) (hlen : t.enc.length + r.length ≤ 1000000) (w : World) (hw : OK w (fpL []) [] w) :
    Fn Try.prog 32 [.string (strOfNums (t.enc ++ r))] [] w (fun _ : Unit => True) (fun _ => .int .i64 (t.enc.length : Int)) (fun _ => []) := by
  obtain ⟨S, hS⟩ : ∃ S, t.enc ++ r = S := ⟨_, rfl⟩
  have hSl : S.length = t.enc.length + r.length := by rw [← hS, List.length_append]
  have hSB : Bytes S := by rw [← hS]; exact (enc_bytes t ht).app hr
  rw [hS]
  refine enterF Try.func32 rfl Try.ntmps32 rfl hw ?_
  refine WC.seq ?_
  refine WC.region ?_
  refine WL.y (Yl.assign rfl) rfl ?_
  refine WL.nil ?_
  refine WC.seq ?_
  refine WC.region ?_
  refine WL.y (Yl.assign rfl) rfl ?_
  refine WL.nil ?_
  refine WC.seq ?_
  refine WC.seq ?_
  refine WC.region ?_
  refine WL.y (Yl.assign rfl) rfl ?_
  refine WL.nil ?_
  refine WC.block ?_
  refine WC.loop (α := List Tm × Nat) (fun s => [(0, .string (strOfNums S)), (3, .int .i64 (s.2 : Int)), (4, .int .i64 (s.1.length : Int))]) (fun _ => []) (fun s => S.drop s.2 = encs s.1 ++ r ∧ s.2 + (encs s.1).length = t.enc.length ∧ oks s.1) (fun s => (encs s.1).length) ([t], 0) ⟨by rw [List.drop_zero, encs_cons, encs_nil, List.append_nil]; exact hS.symm, by rw [encs_cons, encs_nil, List.append_nil]; omega, by rw [oks, oks]; exact ⟨ht, trivial⟩⟩ ⟨(by repeat (first | exact Sub.nil | refine Sub.cons rfl ?_)), _, (by repeat (first | exact TakeL.nil | (apply TakeL.cons; · repeat (first | exact Take1.head | apply Take1.tail))))⟩ ?_
  rintro ⟨fs, p⟩ ⟨h1, h2, h3⟩
  dsimp only at h1 h2 h3 ⊢
  have hfl := len_encs fs
  refine WC.seq ?_
  refine WC.seq ?_
  refine WC.region ?_
  refine WL.y (Yl.move rfl) rfl ?_
  refine WL.y (Yl.gtr rfl rfl) rfl ?_
  refine WL.nil ?_
  refine WC.condD rfl (fun g8 => ?_) (fun g8 => ?_)
  · refine WC.skip ?_
    refine WC.seq ?_
    refine WC.block ?_
    refine WC.seq ?_
    obtain ⟨f, fs, rfl⟩ : ∃ f gs, fs = f :: gs := by
      cases fs with
      | nil => simp at g8
      | cons f gs => exact ⟨f, gs, rfl⟩
    obtain ⟨k, n, l⟩ := f
    rw [oks] at h3
    have hok := (ok_mk k n l).1 h3.1
    rw [encs_cons] at h1 h2
    rw [List.length_append] at h2
    have hel : (Tm.mk k n l).enc.length = (hdB k n l.length).length + (encs l).length := by rw [enc_mk, List.length_append]
    have hrest : Bytes (encs fs ++ r) := (encs_bytes (fun t _ => enc_bytes t) h3.2).app hr
    have hll := len_encs l
    have hlf := len_encs fs
    have hfc : (Tm.mk k n l :: fs).length = fs.length + 1 := rfl
    have hdl := hd_len k n l.length
    refine WC.region ?_
    refine WL.y (Yl.move rfl) rfl ?_
    refine WL.y (Yl.move rfl) rfl ?_
    refine WL.y (Yl.sliceStr un9 rfl ⟨_, rfl⟩ rfl (show p ≤ S.length by omega) (Nat.le_refl _) (show (S.take S.length).drop p = (Tm.mk k n l).enc ++ (encs fs ++ r) by rw [List.take_length, h1, List.append_assoc])) rfl ?_
    refine WL.callC (xs := [.tmp 14]) (cap := []) rfl rfl en31 (by repeat (first | exact TakeL.nil | (apply TakeL.cons; · repeat (first | exact Take1.head | apply Take1.tail)))) (fun w hw => head_any k n l hok.1 hok.2 (encs fs ++ r) hrest w hw.left.here) rfl ?_
    rintro ⟨⟩ -
    refine WL.y (Yl.move rfl) rfl ?_
    refine WL.y (Yl.extract rfl rfl) rfl ?_
    refine WL.y (Yl.extract rfl rfl) rfl ?_
    refine WL.y (Yl.assign rfl) rfl ?_
    refine WL.y (Yl.assign rfl) rfl ?_
    refine WL.nil ?_
    refine WC.seq ?_
    refine WC.region ?_
    refine WL.y (Yl.move rfl) rfl ?_
    refine WL.y (Yl.move rfl) rfl ?_
    refine WL.y (Yl.add rfl rfl (IntWalk.i64_in _ (by omega))) rfl ?_
    refine WL.say (t := 20) (v' := .int .i64 ((p + (hdB k n l.length).length : Nat) : Int)) rfl (by (refine congrArg (Value.int .i64) ?_; omega)) ?_
    refine WL.y (Yl.assign rfl) rfl ?_
    refine WL.nil ?_
    refine WC.region ?_
    refine WL.y (Yl.move rfl) rfl ?_
    refine WL.y (Yl.move rfl) rfl ?_
    refine WL.y (Yl.add rfl rfl (IntWalk.i64_in _ (by omega))) rfl ?_
    refine WL.y (Yl.assign rfl) rfl ?_
    refine WL.nil ?_
    refine WC.region ?_
    refine WL.y (Yl.move rfl) rfl ?_
    refine WL.y (Yl.sub rfl rfl (IntWalk.i64_in _ (by omega))) rfl ?_
    refine WL.say (t := 10) (v' := .int .i64 (((l ++ fs).length : Nat) : Int)) rfl (by (refine congrArg (Value.int .i64) ?_; rw [List.length_append, List.length_cons]; omega)) ?_
    refine WL.y (Yl.assign rfl) rfl ?_
    refine WL.nil ?_
    refine ⟨rfl, (l ++ fs, p + (hdB k n l.length).length), ⟨?_, ?_, ?_⟩, ?_, (by repeat (first | exact Sub.nil | refine Sub.cons rfl ?_)), _, (by repeat (first | exact TakeL.nil | (apply TakeL.cons; · repeat (first | exact Take1.head | apply Take1.tail))))⟩
    · dsimp only
      rw [← List.drop_drop, h1, enc_mk, encs_app, List.append_assoc, List.append_assoc, List.drop_left, List.append_assoc]
    · dsimp only
      rw [encs_app, List.length_append]
      omega
    · exact oks_all.2 fun t ht => (List.mem_append.1 ht).elim (oks_all.1 hok.2 t) (oks_all.1 h3.2 t)
    · dsimp only
      rw [encs_app, encs_cons, List.length_append, List.length_append]
      omega
  · refine WC.exit ?_
    refine WC.seq ?_
    refine WC.region ?_
    refine WL.y (Yl.move rfl) rfl ?_
    refine WL.y (Yl.assign rfl) rfl ?_
    refine WL.nil ?_
    refine WC.ret ?_
    repeat (first | (with_reducible refine peelT ?_) | (with_reducible refine peelB ?_) | (with_reducible refine peelTX ?_) | (with_reducible refine peelBX ?_) | (with_reducible refine peelBN ?_) | (with_reducible refine peelBO rfl ?_))
    have hf : fs = [] := by
      cases fs with
      | nil => rfl
      | cons f gs => simp at g8
    subst hf
    have e : p = t.enc.length := by rw [encs_nil] at h2; simpa using h2
    rw [e]
    exact ret1 (.inr rfl) Try.results32 rfl fun w' h => ⟨(), trivial, rfl, h.sub (by repeat (first | exact TakeL.nil | (apply TakeL.cons; · repeat (first | exact Take1.head | apply Take1.tail))))⟩
theorem be_succ (k : Nat) (n : Int) : be n (k + 1) = be (n / 256) k ++ [n % 256] := by
  unfold be
  rw [beK_succ]
  congr 1
  · unfold beK
    refine List.map_congr_left fun j hj => ?_
    have hj' : j < k := List.mem_range.1 hj
    have e : (2 : Int) ^ (8 * (k + 1 - 1 - j)) = 256 * 2 ^ (8 * (k - 1 - j)) := by
      rw [show 8 * (k + 1 - 1 - j) = 8 + 8 * (k - 1 - j) by omega, Int.pow_add]; rfl
    rw [e, Int.ediv_mul_of_nonneg (by omega)]
  · simp
theorem val_be : ∀ (k : Nat) (n : Int), 0 ≤ n → n < 256 ^ k → val (be n k) = n
  | 0, n, h0, h => by
    have : n = 0 := by simp at h; omega
    subst this; rfl
  | k + 1, n, h0, h => by
    have hk : (256 : Int) ^ (k + 1) = 256 ^ k * 256 := Int.pow_succ ..
    rw [be_succ, val_snoc, val_be k (n / 256) (by omega) (by
      apply Int.ediv_lt_of_lt_mul (by omega); omega)]
    omega
def nuO (o : Option Tm) : Int := match o with
  | none => 0
  | some t => t.nu
theorem nu_bytes {k n : Int} {l : List Tm} (h : k = 1 ∨ k = 3) : ((Tm.mk k n l).enc.take 9).drop 1 = be n 8 := by
  rw [enc_mk]
  rcases h with rfl | rfl
  · show ((1 :: (be n 8 ++ encs l)).take 9).drop 1 = _
    rw [List.take_succ_cons, List.drop_succ_cons, List.drop_zero, List.take_left' (be_len n 8)]
  · show ((3 :: ((be n 8 ++ [(l.length : Int)]) ++ encs l)).take 9).drop 1 = _
    rw [List.take_succ_cons, List.drop_succ_cons, List.drop_zero, List.append_assoc, List.take_left' (be_len n 8)]
theorem nu_zero {k n : Int} {l : List Tm} (h : shp k n l) (h1 : k ≠ 1) (h3 : k ≠ 3) : n = 0 := by unfold shp at h; omega
theorem nu_rng {k n : Int} {l : List Tm} (h : shp k n l) (hk : k = 1 ∨ k = 3) : 0 ≤ n ∧ n < 18446744073709551616 := by unfold shp at h; omega
set_option maxRecDepth 100000 in
theorem number_any (o : Option Tm) (ho : OkO o) (w : World) (hw : OK w (fpL []) [] w) :
    Fn Try.prog 12 [tmV o] [] w (fun _ : Unit => True) (fun _ => .int .u64 (nuO o)) (fun _ => []) := by
  unfold tmV
  refine enterF Try.func12 rfl Try.ntmps12 rfl hw ?_
  refine WC.seq ?_
  refine WC.region ?_
  refine WL.to (To.box (cs := tmC o) rfl rfl) rfl ?_
  intro b1
  refine WL.y (Yl.assign rfl) rfl ?_
  refine WL.nil ?_
  refine WC.seq ?_
  refine WC.region ?_
  refine WL.y (Yl.assign rfl) rfl ?_
  refine WL.nil ?_
  refine WC.seq ?_
  refine WC.seq ?_
  refine WC.region ?_
  refine WL.y (Yl.loadN ag34 rfl (by repeat (first | exact Take1.head | apply Take1.tail)) (by rfl) (show _ = tmC o from rfl)) rfl ?_
  refine WL.callC (xs := [.tmp 7]) (cap := []) rfl rfl en11 (by repeat (first | exact TakeL.nil | (apply TakeL.cons; · repeat (first | exact Take1.head | apply Take1.tail)))) (fun w hw => kind_any o ho w hw.left.here) rfl ?_
  rintro ⟨⟩ -
  refine WL.y (Yl.assign rfl) rfl ?_
  refine WL.nil ?_
  refine WC.seq ?_
  refine WC.region ?_
  refine WL.y (Yl.move rfl) rfl ?_
  refine WL.y (Yl.eql rfl rfl) rfl ?_
  refine WL.y (Yl.move rfl) rfl ?_
  refine WL.both (t := 11) rfl (fun g11 => ?_) (fun g11 => ?_)
  · refine WL.off rfl rfl rfl rfl ?_
    refine WL.off rfl rfl rfl rfl ?_
    refine WL.y (Yl.pickT rfl rfl) rfl ?_
    refine WL.nil ?_
    refine WC.condT rfl (by first | rfl | (simp; done) | (simp; omega)) ?_
    refine WC.seq ?_
    obtain ⟨t, rfl⟩ : ∃ t, o = some t := by
      cases o with
      | none =>
        exfalso
        first
        | (have := of_decide_eq_true g11; exact absurd (show (0 : Int) = 1 from this) (by decide))
        | (have h : (0 : Int) = 3 := g14; exact absurd h (by decide))
      | some t => exact ⟨t, rfl⟩
    obtain ⟨k, n, l⟩ := t
    have hok := (ok_mk k n l).1 (ho _ rfl)
    have hk : k = 1 ∨ k = 3 := by
      first
      | exact .inl (of_decide_eq_true g11)
      | exact .inr g14
    have hnr := nu_rng hok.1 hk
    have hL : 9 ≤ (encO (some (Tm.mk k n l))).length := by
      show 9 ≤ (Tm.mk k n l).enc.length
      rw [enc_mk, List.length_append]
      have := hd_shape hok.1
      omega
    obtain ⟨B, hB⟩ : ∃ B, be n 8 = B := ⟨_, rfl⟩
    have hBl : B.length = 8 := by rw [← hB, be_len]
    have hBB : Bytes B := by rw [← hB]; exact Bytes.be _ _
    have hval : val B = n := by rw [← hB]; exact val_be 8 n hnr.1 (by have := hnr.2; rw [show (256 : Int) ^ 8 = 18446744073709551616 from rfl]; exact this)
    refine WC.region ?_
    refine WL.y (Yl.field fo34_0 rfl) rfl ?_
    refine WL.y (Yl.load on9 rfl (by repeat (first | exact Take1.head | apply Take1.tail)) (by rfl)) rfl ?_
    refine WL.y (Yl.sliceStr (l := 1) (h := 9) un9 rfl ⟨_, rfl⟩ ⟨_, rfl⟩ (by decide) hL ((nu_bytes hk).trans hB)) rfl ?_
    refine WL.to (To.strBytes (ys := B) un9 un75 un5 rfl hBB (by rw [hBl]; unfold maxLen; decide)) rfl ?_
    rintro ⟨b18, c18⟩
    rw [hBl]
    dsimp only
    refine WL.y (Yl.len un75 rfl) rfl ?_
    refine WL.y (Yl.move rfl) rfl ?_
    refine WL.nil ?_
    refine WC.block ?_
    refine WC.loop (α := Nat) (fun i => [(1, .pointer (some ⟨b1, 0, none⟩)), (3, .int .u64 (val (B.take i))), (18, .slice (some ⟨b18, 0, none⟩) 8 c18), (19, .int .i64 8), (20, .int .i64 (i : Int))]) (fun _ => [blkR b1 34 (tmC (some (Tm.mk k n l))), rdR (.slice (some ⟨b18, 0, none⟩) 8 c18) 1 8 (ints .u8 B)]) (fun i => i ≤ 8) (fun i => 8 - i) 0 (by omega) ⟨(by repeat (first | exact Sub.nil | refine Sub.cons rfl ?_)), _, (by repeat (first | exact TakeL.nil | (apply TakeL.cons; · repeat (first | exact Take1.head | apply Take1.tail))))⟩ ?_
    intro i hi
    refine WC.seq ?_
    refine WC.region ?_
    refine WL.y (Yl.lss rfl rfl) rfl ?_
    refine WL.nil ?_
    refine WC.seq ?_
    refine WC.condD rfl (fun g21 => ?_) (fun g21 => ?_)
    · refine WC.skip ?_
      refine WC.seq ?_
      refine WC.block ?_
      refine WC.seq ?_
      refine WC.region ?_
      have hil : i < B.length := by omega
      have hx := hBB.getD hil
      have hv := val_range (hBB.take i)
      have hp : (256 : Int) ^ (B.take i).length ≤ 72057594037927936 := by
        have : (B.take i).length ≤ 7 := by rw [List.length_take]; omega
        generalize (B.take i).length = m at this
        have : m = 0 ∨ m = 1 ∨ m = 2 ∨ m = 3 ∨ m = 4 ∨ m = 5 ∨ m = 6 ∨ m = 7 := by omega
        rcases this with rfl | rfl | rfl | rfl | rfl | rfl | rfl | rfl <;> decide
      refine WL.y (Yl.index un75 sz5 rfl rfl (Reads.of (r := rdR (.slice (some ⟨b18, 0, none⟩) 8 c18) 1 8 (ints .u8 B)) RdOf.rd' (by repeat (first | exact Take1.head | apply Take1.tail))) rfl (by omega)) rfl ?_
      refine WL.y (Yl.loadE on5 rfl (Reads.of (r := rdR (.slice (some ⟨b18, 0, none⟩) 8 c18) 1 8 (ints .u8 B)) RdOf.rd' (by repeat (first | exact Take1.head | apply Take1.tail))) (show (ints .u8 B)[i]? = some (.int .u8 (B.getD i 0)) by unfold ints; rw [List.getElem?_map, getD_of hil]; rfl)) rfl ?_
      refine WL.y (Yl.assign rfl) rfl ?_
      refine WL.nil ?_
      refine WC.region ?_
      refine WL.y (Yl.move rfl) rfl ?_
      refine WL.y (Yl.shl rfl rfl ⟨by omega, by decide⟩ (sh8 _ hv.1 (by omega))) rfl ?_
      refine WL.y (Yl.move rfl) rfl ?_
      refine WL.y (Yl.conv un5 un36 rfl (u64_in _ (by omega))) rfl ?_
      refine WL.y (Yl.or rfl rfl) rfl ?_
      refine WL.say (t := 28) (v' := .int .u64 (val (B.take (i + 1)))) rfl (by rw [or_byte _ _ hv.1 (by omega) hx, take_getD hil, val_snoc]) ?_
      refine WL.y (Yl.assign rfl) rfl ?_
      refine WL.nil ?_
      refine WC.region ?_
      refine WL.y (Yl.add rfl rfl (IntWalk.i64_in _ (by omega))) rfl ?_
      refine WL.y (Yl.move rfl) rfl ?_
      refine WL.nil ?_
      exact ⟨rfl, i + 1, by omega, by omega, (by repeat (first | exact Sub.nil | refine Sub.cons rfl ?_)), _, (by repeat (first | exact TakeL.nil | (apply TakeL.cons; · repeat (first | exact Take1.head | apply Take1.tail))))⟩
    · refine WC.exit ?_
      refine WC.seq ?_
      refine WC.region ?_
      refine WL.y (Yl.move rfl) rfl ?_
      refine WL.y (Yl.assign rfl) rfl ?_
      refine WL.nil ?_
      refine WC.ret ?_
      repeat (first | (with_reducible refine peelT ?_) | (with_reducible refine peelB ?_) | (with_reducible refine peelTX ?_) | (with_reducible refine peelBX ?_) | (with_reducible refine peelBN ?_) | (with_reducible refine peelBO rfl ?_))
      first
      | (have e : nuO (some (Tm.mk k n l)) = val (B.take i) := by
           have : i = 8 := by omega
           rw [this, List.take_of_length_le (by omega), hval]
           rfl
         rw [e]
         exact ret1 (.inr rfl) Try.results12 rfl fun w' h => ⟨(), trivial, rfl, h.sub (by repeat (first | exact TakeL.nil | (apply TakeL.cons; · repeat (first | exact Take1.head | apply Take1.tail))))⟩)
      | (have e : nuO o = 0 := by
           cases o with
           | none => rfl
           | some t =>
             obtain ⟨k, n, l⟩ := t
             have hok := (ok_mk k n l).1 (ho _ rfl)
             exact nu_zero hok.1 (of_decide_eq_false g11) g14
         rw [e]
         exact ret1 (.inr rfl) Try.results12 rfl fun w' h => ⟨(), trivial, rfl, h.sub (by repeat (first | exact TakeL.nil | (apply TakeL.cons; · repeat (first | exact Take1.head | apply Take1.tail))))⟩)
  · refine WL.on rfl rfl ?_
    refine WL.y (Yl.move rfl) rfl ?_
    refine WL.on rfl rfl ?_
    refine WL.y (Yl.eql rfl rfl) rfl ?_
    refine WL.y (Yl.pickF rfl rfl) rfl ?_
    refine WL.nil ?_
    refine WC.condD rfl (fun g14 => ?_) (fun g14 => ?_)
    · refine WC.seq ?_
      obtain ⟨t, rfl⟩ : ∃ t, o = some t := by
        cases o with
        | none =>
          exfalso
          first
          | (have := of_decide_eq_true g11; exact absurd (show (0 : Int) = 1 from this) (by decide))
          | (have h : (0 : Int) = 3 := g14; exact absurd h (by decide))
        | some t => exact ⟨t, rfl⟩
      obtain ⟨k, n, l⟩ := t
      have hok := (ok_mk k n l).1 (ho _ rfl)
      have hk : k = 1 ∨ k = 3 := by
        first
        | exact .inl (of_decide_eq_true g11)
        | exact .inr g14
      have hnr := nu_rng hok.1 hk
      have hL : 9 ≤ (encO (some (Tm.mk k n l))).length := by
        show 9 ≤ (Tm.mk k n l).enc.length
        rw [enc_mk, List.length_append]
        have := hd_shape hok.1
        omega
      obtain ⟨B, hB⟩ : ∃ B, be n 8 = B := ⟨_, rfl⟩
      have hBl : B.length = 8 := by rw [← hB, be_len]
      have hBB : Bytes B := by rw [← hB]; exact Bytes.be _ _
      have hval : val B = n := by rw [← hB]; exact val_be 8 n hnr.1 (by have := hnr.2; rw [show (256 : Int) ^ 8 = 18446744073709551616 from rfl]; exact this)
      refine WC.region ?_
      refine WL.y (Yl.field fo34_0 rfl) rfl ?_
      refine WL.y (Yl.load on9 rfl (by repeat (first | exact Take1.head | apply Take1.tail)) (by rfl)) rfl ?_
      refine WL.y (Yl.sliceStr (l := 1) (h := 9) un9 rfl ⟨_, rfl⟩ ⟨_, rfl⟩ (by decide) hL ((nu_bytes hk).trans hB)) rfl ?_
      refine WL.to (To.strBytes (ys := B) un9 un75 un5 rfl hBB (by rw [hBl]; unfold maxLen; decide)) rfl ?_
      rintro ⟨b18, c18⟩
      rw [hBl]
      dsimp only
      refine WL.y (Yl.len un75 rfl) rfl ?_
      refine WL.y (Yl.move rfl) rfl ?_
      refine WL.nil ?_
      refine WC.block ?_
      refine WC.loop (α := Nat) (fun i => [(1, .pointer (some ⟨b1, 0, none⟩)), (3, .int .u64 (val (B.take i))), (18, .slice (some ⟨b18, 0, none⟩) 8 c18), (19, .int .i64 8), (20, .int .i64 (i : Int))]) (fun _ => [blkR b1 34 (tmC (some (Tm.mk k n l))), rdR (.slice (some ⟨b18, 0, none⟩) 8 c18) 1 8 (ints .u8 B)]) (fun i => i ≤ 8) (fun i => 8 - i) 0 (by omega) ⟨(by repeat (first | exact Sub.nil | refine Sub.cons rfl ?_)), _, (by repeat (first | exact TakeL.nil | (apply TakeL.cons; · repeat (first | exact Take1.head | apply Take1.tail))))⟩ ?_
      intro i hi
      refine WC.seq ?_
      refine WC.region ?_
      refine WL.y (Yl.lss rfl rfl) rfl ?_
      refine WL.nil ?_
      refine WC.seq ?_
      refine WC.condD rfl (fun g21 => ?_) (fun g21 => ?_)
      · refine WC.skip ?_
        refine WC.seq ?_
        refine WC.block ?_
        refine WC.seq ?_
        refine WC.region ?_
        have hil : i < B.length := by omega
        have hx := hBB.getD hil
        have hv := val_range (hBB.take i)
        have hp : (256 : Int) ^ (B.take i).length ≤ 72057594037927936 := by
          have : (B.take i).length ≤ 7 := by rw [List.length_take]; omega
          generalize (B.take i).length = m at this
          have : m = 0 ∨ m = 1 ∨ m = 2 ∨ m = 3 ∨ m = 4 ∨ m = 5 ∨ m = 6 ∨ m = 7 := by omega
          rcases this with rfl | rfl | rfl | rfl | rfl | rfl | rfl | rfl <;> decide
        refine WL.y (Yl.index un75 sz5 rfl rfl (Reads.of (r := rdR (.slice (some ⟨b18, 0, none⟩) 8 c18) 1 8 (ints .u8 B)) RdOf.rd' (by repeat (first | exact Take1.head | apply Take1.tail))) rfl (by omega)) rfl ?_
        refine WL.y (Yl.loadE on5 rfl (Reads.of (r := rdR (.slice (some ⟨b18, 0, none⟩) 8 c18) 1 8 (ints .u8 B)) RdOf.rd' (by repeat (first | exact Take1.head | apply Take1.tail))) (show (ints .u8 B)[i]? = some (.int .u8 (B.getD i 0)) by unfold ints; rw [List.getElem?_map, getD_of hil]; rfl)) rfl ?_
        refine WL.y (Yl.assign rfl) rfl ?_
        refine WL.nil ?_
        refine WC.region ?_
        refine WL.y (Yl.move rfl) rfl ?_
        refine WL.y (Yl.shl rfl rfl ⟨by omega, by decide⟩ (sh8 _ hv.1 (by omega))) rfl ?_
        refine WL.y (Yl.move rfl) rfl ?_
        refine WL.y (Yl.conv un5 un36 rfl (u64_in _ (by omega))) rfl ?_
        refine WL.y (Yl.or rfl rfl) rfl ?_
        refine WL.say (t := 28) (v' := .int .u64 (val (B.take (i + 1)))) rfl (by rw [or_byte _ _ hv.1 (by omega) hx, take_getD hil, val_snoc]) ?_
        refine WL.y (Yl.assign rfl) rfl ?_
        refine WL.nil ?_
        refine WC.region ?_
        refine WL.y (Yl.add rfl rfl (IntWalk.i64_in _ (by omega))) rfl ?_
        refine WL.y (Yl.move rfl) rfl ?_
        refine WL.nil ?_
        exact ⟨rfl, i + 1, by omega, by omega, (by repeat (first | exact Sub.nil | refine Sub.cons rfl ?_)), _, (by repeat (first | exact TakeL.nil | (apply TakeL.cons; · repeat (first | exact Take1.head | apply Take1.tail))))⟩
      · refine WC.exit ?_
        refine WC.seq ?_
        refine WC.region ?_
        refine WL.y (Yl.move rfl) rfl ?_
        refine WL.y (Yl.assign rfl) rfl ?_
        refine WL.nil ?_
        refine WC.ret ?_
        repeat (first | (with_reducible refine peelT ?_) | (with_reducible refine peelB ?_) | (with_reducible refine peelTX ?_) | (with_reducible refine peelBX ?_) | (with_reducible refine peelBN ?_) | (with_reducible refine peelBO rfl ?_))
        first
        | (have e : nuO (some (Tm.mk k n l)) = val (B.take i) := by
             have : i = 8 := by omega
             rw [this, List.take_of_length_le (by omega), hval]
             rfl
           rw [e]
           exact ret1 (.inr rfl) Try.results12 rfl fun w' h => ⟨(), trivial, rfl, h.sub (by repeat (first | exact TakeL.nil | (apply TakeL.cons; · repeat (first | exact Take1.head | apply Take1.tail))))⟩)
        | (have e : nuO o = 0 := by
             cases o with
             | none => rfl
             | some t =>
               obtain ⟨k, n, l⟩ := t
               have hok := (ok_mk k n l).1 (ho _ rfl)
               exact nu_zero hok.1 (of_decide_eq_false g11) g14
           rw [e]
           exact ret1 (.inr rfl) Try.results12 rfl fun w' h => ⟨(), trivial, rfl, h.sub (by repeat (first | exact TakeL.nil | (apply TakeL.cons; · repeat (first | exact Take1.head | apply Take1.tail))))⟩)
    · refine WC.skip ?_
      refine WC.seq ?_
      refine WC.region ?_
      refine WL.y (Yl.move rfl) rfl ?_
      refine WL.y (Yl.assign rfl) rfl ?_
      refine WL.nil ?_
      refine WC.ret ?_
      repeat (first | (with_reducible refine peelT ?_) | (with_reducible refine peelB ?_) | (with_reducible refine peelTX ?_) | (with_reducible refine peelBX ?_) | (with_reducible refine peelBN ?_) | (with_reducible refine peelBO rfl ?_))
      first
      | (have e : nuO (some (Tm.mk k n l)) = val (B.take i) := by
           have : i = 8 := by omega
           rw [this, List.take_of_length_le (by omega), hval]
           rfl
         rw [e]
         exact ret1 (.inr rfl) Try.results12 rfl fun w' h => ⟨(), trivial, rfl, h.sub (by repeat (first | exact TakeL.nil | (apply TakeL.cons; · repeat (first | exact Take1.head | apply Take1.tail))))⟩)
      | (have e : nuO o = 0 := by
           cases o with
           | none => rfl
           | some t =>
             obtain ⟨k, n, l⟩ := t
             have hok := (ok_mk k n l).1 (ho _ rfl)
             exact nu_zero hok.1 (of_decide_eq_false g11) g14
         rw [e]
         exact ret1 (.inr rfl) Try.results12 rfl fun w' h => ⟨(), trivial, rfl, h.sub (by repeat (first | exact TakeL.nil | (apply TakeL.cons; · repeat (first | exact Take1.head | apply Take1.tail))))⟩)
end Go.Proofs.Ytifhkjcimhhaiaa

namespace Go.Proofs.Ytifhkjcimhhaiaa
open Go Go.RowKit
/-- Two results, both in memory, each of more cells. -/
theorem retCC {c : Cx} {fn : Func} {R : Ending → World → Prop} {e : Exit} {env : Env} {H F F2 : List Res} {t T n b u U m b2 : Nat} {T' T2 : TypeId} {cs cs2 : List Value} (he : e = .normal ∨ e = .ret) (hr : fn.results = #[.cell t T, .cell u U]) (ha : aggB c.P T n = true) (ho : aggB c.P U m = true)
    (hv : Env.get env t = some (.pointer (some ⟨b, 0, none⟩))) (hx : Env.get env u = some (.pointer (some ⟨b2, 0, none⟩))) (tk : Take1 H (blkR b T' cs) F) (tk2 : Take1 H (blkR b2 T2 cs2) F2) (hl : cs.length = n) (hl2 : cs2.length = m) (h : ∀ w, OK c.w0 c.S H w → R (.returned (.tuple #[.agg cs.toArray, .agg cs2.toArray])) w) : retS c fn R e env [] H := by
  refine retG he (fun tmps w ht hw => ?_) h
  have h1 := run_loadVar_agg (P := c.P) ha hl (hw.cells tk)
  have h2 := run_loadVar_agg (P := c.P) ho hl2 (hw.cells tk2)
  simp [results, hr, ht t _ hv, ht u _ hx, asAddr, h1, h2]
def ptO (o : Option Tm) : List Tm := match o with
  | none => []
  | some t => t.pt
def yrM (ts : List Tm) : List (Array Value) := ts.map fun t => #[tmV (some t)]
theorem yrM_len (ts : List Tm) : (yrM ts).length = ts.length := List.length_map _
theorem yrM_get {ts : List Tm} {k : Nat} {t : Tm} (h : ts[k]? = some t) : (yrM ts)[k]? = some #[tmV (some t)] := by unfold yrM; rw [List.getElem?_map, h]; rfl
theorem yrM_at {ts : List Tm} {k : Nat} {y : Array Value} (h : (yrM ts)[k]? = some y) : ∃ t, ts[k]? = some t ∧ y = #[tmV (some t)] := by
  unfold yrM at h
  rw [List.getElem?_map] at h
  obtain ⟨t, ht, rfl⟩ := Option.map_eq_some_iff.1 h
  exact ⟨t, ht, rfl⟩
theorem yrM_size {ts : List Tm} : ∀ y ∈ yrM ts, y.size = 1 := by
  intro y hy
  obtain ⟨t, _, rfl⟩ := List.mem_map.1 hy
  rfl
theorem oks_get {l : List Tm} (h : oks l) {i : Nat} {t : Tm} (hx : l[i]? = some t) : t.ok := oks_all.1 h t (List.mem_of_getElem? hx)
theorem encs_at {l : List Tm} {i : Nat} {t : Tm} (h : l[i]? = some t) : encs l = encs (l.take i) ++ (t.enc ++ encs (l.drop (i + 1))) := by
  obtain ⟨hl, he⟩ := List.getElem?_eq_some_iff.1 h
  have : l = l.take i ++ t :: l.drop (i + 1) := by
    rw [← he, ← List.drop_eq_getElem_cons hl, List.take_append_drop]
  rw [congrArg encs this, encs_app, encs_cons]
set_option maxRecDepth 100000 in
theorem parts1_iter (b1 : Nat) (o : Option Tm) (ho : OkO o) (hlen : (encO o).length ≤ 1000000) (w : World) (hA : OK w (fpL [roR (blkR b1 34 (tmC o))]) [roR (blkR b1 34 (tmC o))] w) :
    Iter Try.prog 30 ([.pointer (some ⟨b1, 0, none⟩)] : List Value).toArray (fpL [roR (blkR b1 34 (tmC o))]).rd (yrM (ptO o)) w := by
  have hwr : ∀ r ∈ [roR (blkR b1 34 (tmC o))], ∀ k, ¬ r.wr k := by
    intro r hr k hk
    simp at hr
    rcases hr with rfl
    exact hk
  refine iter_of Try.func30 rfl Try.ntmps30 rfl hA hwr ?_
  intro l W g gx T0 hy
  refine WC.seq ?_
  refine WC.seq ?_
  refine WC.region ?_
  refine WL.y (Yl.field fo34_0 rfl) rfl ?_
  refine WL.y (Yl.loadRo on9 rfl (by repeat (first | exact Take1.head | apply Take1.tail)) (by rfl)) rfl ?_
  refine WL.y (Yl.sEqT (encO_bytes ho) bytes_nil rfl rfl) rfl ?_
  refine WL.nil ?_
  refine WC.condD rfl (fun g8 => ?_) (fun g8 => ?_)
  · refine WC.ret ?_
    repeat (first | (with_reducible refine peelT ?_) | (with_reducible refine peelB ?_) | (with_reducible refine peelTX ?_) | (with_reducible refine peelBX ?_) | (with_reducible refine peelBN ?_) | (with_reducible refine peelBO rfl ?_))
    have e := encO_nil.1 g8
    subst e
    exact itEnd (.inr rfl) Try.results30 (by repeat (first | exact Take1.head | apply Take1.tail))
  · refine WC.skip ?_
    refine WC.seq ?_
    obtain ⟨t, rfl⟩ : ∃ t, o = some t := by
      cases o with
      | none => exact absurd rfl g8
      | some t => exact ⟨t, rfl⟩
    obtain ⟨k, n, ps⟩ := t
    have hok := (ok_mk k n ps).1 (ho _ rfl)
    have hlen : (Tm.mk k n ps).enc.length ≤ 1000000 := hlen
    have hel : (Tm.mk k n ps).enc.length = (hdB k n ps.length).length + (encs ps).length := by rw [enc_mk, List.length_append]
    have hll := len_encs ps
    obtain ⟨HD, hHD⟩ : ∃ HD, hdB k n ps.length = HD := ⟨_, rfl⟩
    refine WC.region ?_
    refine WL.y (Yl.field fo34_0 rfl) rfl ?_
    refine WL.y (Yl.loadRo on9 rfl (by repeat (first | exact Take1.head | apply Take1.tail)) (show (tmC (some (Tm.mk k n ps)))[0]? = some (.string (strOfNums ((Tm.mk k n ps).enc ++ []))) by rw [List.append_nil]; rfl)) rfl ?_
    refine WL.callC (xs := [.tmp 11]) (cap := []) rfl rfl en31 (by repeat (first | exact TakeL.nil | (apply TakeL.cons; · repeat (first | exact Take1.head | apply Take1.tail)))) (fun w hw => head_any k n ps hok.1 hok.2 [] bytes_nil w hw.left.here) rfl ?_
    rintro ⟨⟩ -
    rw [hHD]
    rw [hHD] at hel
    dsimp only [List.cons_append, List.nil_append]
    refine WL.y (Yl.move rfl) rfl ?_
    refine WL.y (Yl.extract rfl rfl) rfl ?_
    refine WL.y (Yl.extract rfl rfl) rfl ?_
    refine WL.y (Yl.assign rfl) rfl ?_
    refine WL.y (Yl.assign rfl) rfl ?_
    refine WL.nil ?_
    refine WC.block ?_
    refine WC.loop (α := Nat × (Nat → Prop)) (fun s => [(0, .func (.yield l) #[] #[]), (1, .pointer (some ⟨b1, 0, none⟩)), (3, .int .i64 ((HD.length + (encs (ps.take s.1)).length : Nat) : Int)), (4, .int .i64 ((ps.length - s.1 : Nat) : Int))]) (fun s => [gstR g s.1 s.2, roR (blkR b1 34 (tmC (some (Tm.mk k n ps))))]) (fun s => s.1 ≤ ps.length) (fun s => ps.length - s.1) (0, T0) (Nat.zero_le _) ⟨(by repeat (first | exact Sub.nil | refine Sub.cons rfl ?_)), _, (by repeat (first | exact TakeL.nil | (apply TakeL.cons; · repeat (first | exact Take1.head | apply Take1.tail))))⟩ ?_
    rintro ⟨i, T⟩ hi
    dsimp only at hi ⊢
    refine WC.seq ?_
    refine WC.seq ?_
    refine WC.region ?_
    refine WL.y (Yl.move rfl) rfl ?_
    refine WL.y (Yl.gtr rfl rfl) rfl ?_
    refine WL.nil ?_
    refine WC.condD rfl (fun g16 => ?_) (fun g16 => ?_)
    · refine WC.skip ?_
      refine WC.seq ?_
      refine WC.block ?_
      refine WC.seq ?_
      refine WC.region ?_
      refine WL.y (Yl.move rfl) rfl ?_
      have hil : i < ps.length := by omega
      obtain ⟨x, hx0⟩ : ∃ x, ps[i]? = some x := ⟨_, List.getElem?_eq_getElem hil⟩
      have hxo := oks_get hok.2 hx0
      have hat := encs_at hx0
      have hal : (encs ps).length = (encs (ps.take i)).length + (x.enc.length + (encs (ps.drop (i + 1))).length) := by rw [hat, List.length_append, List.length_append]
      have henc : (Tm.mk k n ps).enc = (HD ++ encs (ps.take i)) ++ (x.enc ++ encs (ps.drop (i + 1))) := by rw [enc_mk, hHD, hat, List.append_assoc]
      have hpl : (HD ++ encs (ps.take i)).length = HD.length + (encs (ps.take i)).length := List.length_append
      have htk : encs (ps.take (i + 1)) = encs (ps.take i) ++ x.enc := by rw [← take_snoc _ _ _ hx0, encs_app, encs_cons, encs_nil, List.append_nil]
      have hrest : Bytes (encs (ps.drop (i + 1))) := encs_bytes (fun t _ => enc_bytes t) (oks_all.2 fun t ht => oks_all.1 hok.2 t (List.mem_of_mem_drop ht))
      refine WL.y (Yl.field fo34_0 rfl) rfl ?_
      refine WL.y (Yl.loadRo on9 rfl (by repeat (first | exact Take1.head | apply Take1.tail)) (show (tmC (some (Tm.mk k n ps)))[0]? = some (.string (strOfNums (Tm.mk k n ps).enc)) from rfl)) rfl ?_
      refine WL.y (Yl.move rfl) rfl ?_
      refine WL.y (Yl.sliceStr un9 rfl ⟨_, rfl⟩ rfl (show HD.length + (encs (ps.take i)).length ≤ (Tm.mk k n ps).enc.length by omega) (Nat.le_refl _) (show ((Tm.mk k n ps).enc.take (Tm.mk k n ps).enc.length).drop (HD.length + (encs (ps.take i)).length) = x.enc ++ encs (ps.drop (i + 1)) by rw [List.take_length, henc, ← hpl, List.drop_left])) rfl ?_
      refine WL.callC (xs := [.tmp 23]) (cap := []) rfl rfl en32 (by repeat (first | exact TakeL.nil | (apply TakeL.cons; · repeat (first | exact Take1.head | apply Take1.tail)))) (fun w hw => size_any x hxo (encs (ps.drop (i + 1))) hrest (by omega) w hw.left.here) rfl ?_
      rintro ⟨⟩ -
      refine WL.y (Yl.add rfl rfl (IntWalk.i64_in _ (by omega))) rfl ?_
      refine WL.say (t := 25) (v' := .int .i64 ((HD.length + (encs (ps.take (i + 1))).length : Nat) : Int)) rfl (by (refine congrArg (Value.int .i64) ?_; rw [htk, List.length_append]; omega)) ?_
      refine WL.y (Yl.assign rfl) rfl ?_
      refine WL.nil ?_
      refine WC.seq ?_
      refine WC.seq ?_
      refine WC.region ?_
      refine WL.y (Yl.move rfl) rfl ?_
      refine WL.y (Yl.field fo34_0 rfl) rfl ?_
      refine WL.y (Yl.loadRo on9 rfl (by repeat (first | exact Take1.head | apply Take1.tail)) (show (tmC (some (Tm.mk k n ps)))[0]? = some (.string (strOfNums (Tm.mk k n ps).enc)) from rfl)) rfl ?_
      refine WL.y (Yl.move rfl) rfl ?_
      refine WL.y (Yl.move rfl) rfl ?_
      refine WL.y (Yl.sliceStr un9 rfl ⟨_, rfl⟩ ⟨_, rfl⟩ (show HD.length + (encs (ps.take i)).length ≤ HD.length + (encs (ps.take (i + 1))).length by rw [htk, List.length_append]; omega) (show HD.length + (encs (ps.take (i + 1))).length ≤ (Tm.mk k n ps).enc.length by rw [htk, List.length_append]; omega) (show ((Tm.mk k n ps).enc.take (HD.length + (encs (ps.take (i + 1))).length)).drop (HD.length + (encs (ps.take i)).length) = x.enc by rw [henc, htk, List.length_append, show HD.length + ((encs (ps.take i)).length + x.enc.length) = ((HD ++ encs (ps.take i)) ++ x.enc).length by rw [List.length_append, hpl]; omega, ← List.append_assoc, List.take_left, ← hpl, List.drop_left])) rfl ?_
      refine WL.y (Yl.build rfl (cs := tmC (some x)) (fun _ => by kernel_rfl)) rfl ?_
      refine WL.yield (xs := [.tmp 32]) (i := i) hy rfl rfl (yrM_get hx0) (by repeat (first | exact Take1.head | apply Take1.tail)) rfl ?_
      intro b33 T'
      refine WL.y (Yl.not rfl) rfl ?_
      refine WL.nil ?_
      refine WC.cond rfl (fun g34 => ?_) (fun g34 => ?_)
      · refine WC.ret ?_
        repeat (first | (with_reducible refine peelT ?_) | (with_reducible refine peelB ?_) | (with_reducible refine peelTX ?_) | (with_reducible refine peelBX ?_) | (with_reducible refine peelBN ?_) | (with_reducible refine peelBO rfl ?_))
        have hb : b33 = false := by simpa using g34
        subst hb
        simp only [Bool.false_eq_true, if_false]
        exact itStop (i := i) (.inr rfl) Try.results30 (by repeat (first | exact Take1.head | apply Take1.tail)) (by rw [yrM_len]; exact hil)
      · refine WC.skip ?_
        refine WC.region ?_
        refine WL.y (Yl.move rfl) rfl ?_
        refine WL.y (Yl.assign rfl) rfl ?_
        refine WL.nil ?_
        refine WC.region ?_
        refine WL.y (Yl.move rfl) rfl ?_
        refine WL.y (Yl.sub rfl rfl (IntWalk.i64_in _ (by omega))) rfl ?_
        refine WL.say (t := 18) (v' := .int .i64 ((ps.length - (i + 1) : Nat) : Int)) rfl (by (refine congrArg (Value.int .i64) ?_; omega)) ?_
        refine WL.y (Yl.assign rfl) rfl ?_
        refine WL.nil ?_
        have hb : b33 = true := by simpa using g34
        subst hb
        simp only [if_true]
        exact ⟨rfl, (i + 1, T'), by dsimp only; omega, by dsimp only; omega, (by repeat (first | exact Sub.nil | refine Sub.cons rfl ?_)), _, (by repeat (first | exact TakeL.nil | (apply TakeL.cons; · repeat (first | exact Take1.head | apply Take1.tail))))⟩
    · refine WC.exit ?_
      repeat (first | (with_reducible refine peelT ?_) | (with_reducible refine peelB ?_) | (with_reducible refine peelTX ?_) | (with_reducible refine peelBX ?_) | (with_reducible refine peelBN ?_) | (with_reducible refine peelBO rfl ?_))
      have hx : i = (yrM (ptO (some (Tm.mk k n ps)))).length := by rw [yrM_len]; show i = ps.length; omega
      rw [← hx]
      exact itEnd (.inl rfl) Try.results30 (by repeat (first | exact Take1.head | apply Take1.tail))
theorem parts_any (o : Option Tm) (ho : OkO o) (hlen : (encO o).length ≤ 1000000) (w : World) (hw : OK w (fpL []) [] w) :
    Fn Try.prog 10 [tmV o] [] w (fun _ : Nat × (Nat → Prop) => True) (fun y => .func (.func 30) #[] #[.pointer (some ⟨y.1, 0, none⟩)]) (fun y => [itR Try.prog 30 [.pointer (some ⟨y.1, 0, none⟩)] y.2 (yrM (ptO o))]) := by
  unfold tmV
  refine enterF Try.func10 rfl Try.ntmps10 rfl hw ?_
  refine WC.seq ?_
  refine WC.region ?_
  refine WL.to (To.box (cs := tmC o) rfl rfl) rfl ?_
  intro b1
  refine WL.y (Yl.assign rfl) rfl ?_
  refine WL.nil ?_
  refine WC.seq ?_
  refine WC.region ?_
  refine WL.y (Yl.makeFunc (xs := []) (ys := [.tmp 1]) rfl rfl) rfl ?_
  refine WL.y (Yl.assign rfl) rfl ?_
  refine WL.nil ?_
  refine WC.ret ?_
  repeat (first | (with_reducible refine peelT ?_) | (with_reducible refine peelB ?_) | (with_reducible refine peelTX ?_) | (with_reducible refine peelBX ?_) | (with_reducible refine peelBN ?_) | (with_reducible refine peelBO rfl ?_))
  refine ret1 (.inr rfl) Try.results10 rfl fun w' hh => ⟨(b1, (fpL [roR (blkR b1 34 (tmC o))]).rd), trivial, rfl, ?_⟩
  have hA : OK w _ ([blkR b1 34 (tmC o)] ++ []) w' := hh.sub (by repeat (first | exact TakeL.nil | (apply TakeL.cons; · repeat (first | exact Take1.head | apply Take1.tail))))
  have hro : OK w _ ([roR (blkR b1 34 (tmC o))] ++ []) w' := hA.roOne .head
  exact hro.toIter (parts1_iter b1 o ho hlen w' hro.here) (fun k hk => hk)
set_option maxRecDepth 100000 in
theorem appM_any (gf : Nat) (lb : List Value) (own : Nat → Prop) (ts : List Tm) (hl : ts.length ≤ 1000000) (eg : ∀ args w, (callFunc gf args).run Try.prog w = .ok (.enter gf args) w) (w : World) (hw : OK w (fpL [itR Try.prog gf lb own (yrM ts)]) [itR Try.prog gf lb own (yrM ts)] w) :
    Fn Try.prog 55 [.slice none 0 0, .func (.func gf) #[] lb.toArray] [itR Try.prog gf lb own (yrM ts)] w (fun _ : Option Addr × Nat => True) (fun y => .slice y.1 ts.length y.2) (fun y => [ownR (.slice y.1 ts.length y.2) 34 1 ts.length (vcs tmV (ts.map some))]) := by
  refine enterM Try.func55 rfl Try.ntmps55 rfl hw ?_
  refine WC.seq ?_
  refine WC.region ?_
  refine WL.to (To.box (cs := [.slice none 0 0]) rfl rfl) rfl ?_
  intro b2
  refine WL.y (Yl.assign rfl) rfl ?_
  refine WL.nil ?_
  refine WC.seq ?_
  refine WC.seq ?_
  refine WC.region ?_
  refine WL.y (Yl.move rfl) rfl ?_
  refine WL.nil ?_
  refine WC.block ?_
  refine WC.view (fun w h => h.addNil 34 1) ?_
  refine WC.range (α := Option Addr × Nat) (lb := lb) (xs := yrM ts) (fun i s => [blkR b2 25 [.slice s.1 (ts.take i).length s.2], ownR (.slice s.1 (ts.take i).length s.2) 34 1 (ts.take i).length (vcs tmV ((ts.take i).map some))]) (fun _ _ => True) (none, 0) rfl eg yrM_size rfl (by repeat (first | exact Take1.head | apply Take1.tail)) trivial (by repeat (first | exact TakeL.nil | (apply TakeL.cons; · repeat (first | exact Take1.head | apply Take1.tail)))) ?_ ?_
  · rintro l2 i x ⟨ao, ca⟩ hx - W
    dsimp only
    obtain ⟨x, hx0, rfl⟩ := yrM_at hx
    have hil := (List.getElem?_eq_some_iff.1 hx0).1
    have hnx : ts.take (i + 1) = ts.take i ++ [x] := (take_snoc _ _ _ hx0).symm
    have htl : (ts.take i).length = i := by rw [List.length_take]; omega
    show WC _ _ _ ((7, .agg (tmC (some x)).toArray) :: _) _ _
    refine WC.region ?_
    refine WL.to (To.alloc (cs := [.string (strOfNums [])]) zr34 rfl) rfl ?_
    intro b5
    refine WL.sto (Sto.agg sz34 rfl rfl (by repeat (first | exact Take1.head | apply Take1.tail)) (tm_ones _) rfl (by rfl) (show _ = tmC (some x) from rfl)) (fun _ h => nomatch h) ?_
    refine WL.nil ?_
    repeat (first | (with_reducible refine peelT ?_) | (with_reducible refine peelB ?_) | (with_reducible refine peelTX ?_) | (with_reducible refine peelBX ?_) | (with_reducible refine peelBN ?_) | (with_reducible refine peelBO rfl ?_))
    refine fun W2 => ?_
    refine WC.block ?_
    refine WC.region ?_
    refine WL.y (Yl.load on25 rfl (by repeat (first | exact Take1.head | apply Take1.tail)) (by rfl)) rfl ?_
    refine WL.y (Yl.loadN ag34 rfl (by repeat (first | exact Take1.head | apply Take1.tail)) (by rfl) (show _ = tmC (some x) from rfl)) rfl ?_
    refine WL.to (To.buildSlice (vs := [tmV (some x)]) un25 zs34 rfl rfl (by simp [Value.cells, tmV, tmC]) (by decide) (by decide)) rfl ?_
    intro b10
    rw [show flat [tmV (some x)] = vcs tmV [some x] from rfl]
    refine WL.to (To.append sl25 rfl rfl (by repeat (first | exact Take1.head | apply Take1.tail)) (Reads.of (RdOf.blk (size := 1) (n := 1) (cs := vcs tmV [some x]) (cs' := vcs tmV [some x]) (Nat.le_refl _) (by unfold maxLen; omega) (by simp [vcs, tmV, tmC, flat, Value.cells]) rfl) (by repeat (first | exact Take1.head | apply Take1.tail))) (vtM.ones _) (show (ts.take i).length + 1 = (ts.take (i + 1)).length by rw [hnx]; simp) (show vcs tmV ((ts.take i).map some) ++ vcs tmV [some x] = vcs tmV ((ts.take (i + 1)).map some) by rw [hnx, List.map_append, vcs_app]; rfl) (by rw [hnx]; simp; unfold maxLen; omega) (by rw [hnx]; simp; omega)) rfl ?_
    rintro ⟨⟨ao11, c11⟩, hc11⟩
    dsimp only at hc11 ⊢
    refine WL.sto (Sto.one sz25 rfl rfl (by repeat (first | exact Take1.head | apply Take1.tail)) rfl (by rfl) (by rfl)) (fun _ h => nomatch h) ?_
    refine WL.nil ?_
    repeat (first | (with_reducible refine peelT ?_) | (with_reducible refine peelB ?_) | (with_reducible refine peelTX ?_) | (with_reducible refine peelBX ?_) | (with_reducible refine peelBN ?_) | (with_reducible refine peelBO rfl ?_))
    exact ⟨[blkR b2 25 [.slice ao11 (ts.take (i + 1)).length c11], ownR (.slice ao11 (ts.take (i + 1)).length c11) 34 1 (ts.take (i + 1)).length (vcs tmV ((ts.take (i + 1)).map some))], _, (by repeat (first | exact TakeL.nil | (apply TakeL.cons; · repeat (first | exact Take1.head | apply Take1.tail)))), (ao11, c11), trivial, rfl⟩
  · rintro ⟨ao, ca⟩ D -
    rw [yrM_len, List.take_length]
    dsimp only [List.cons_append, List.nil_append]
    refine WC.seq ?_
    refine WC.region ?_
    refine WL.y (Yl.load on25 rfl (by repeat (first | exact Take1.head | apply Take1.tail)) (by rfl)) rfl ?_
    refine WL.y (Yl.assign rfl) rfl ?_
    refine WL.nil ?_
    refine WC.ret ?_
    repeat (first | (with_reducible refine peelT ?_) | (with_reducible refine peelB ?_) | (with_reducible refine peelTX ?_) | (with_reducible refine peelBX ?_) | (with_reducible refine peelBN ?_) | (with_reducible refine peelBO rfl ?_))
    refine retM.of (.cons (by repeat (first | exact Take1.head | apply Take1.tail)) .nil) ?_
    exact ret1 (.inr rfl) Try.results55 rfl fun w' h => ⟨(ao, ca), trivial, rfl, h.sub (by repeat (first | exact TakeL.nil | (apply TakeL.cons; · repeat (first | exact Take1.head | apply Take1.tail))))⟩
theorem colM_any (gf : Nat) (lb : List Value) (own : Nat → Prop) (ts : List Tm) (hl : ts.length ≤ 1000000) (eg : ∀ args w, (callFunc gf args).run Try.prog w = .ok (.enter gf args) w) (w : World) (hw : OK w (fpL [itR Try.prog gf lb own (yrM ts)]) [itR Try.prog gf lb own (yrM ts)] w) :
    Fn Try.prog 45 [.func (.func gf) #[] lb.toArray] [itR Try.prog gf lb own (yrM ts)] w (fun _ : Option Addr × Nat => True) (fun y => .slice y.1 ts.length y.2) (fun y => [ownR (.slice y.1 ts.length y.2) 34 1 ts.length (vcs tmV (ts.map some))]) := by
  refine enterF Try.func45 rfl Try.ntmps45 rfl hw ?_
  refine WC.seq ?_
  refine WC.region ?_
  refine WL.y (Yl.assign rfl) rfl ?_
  refine WL.nil ?_
  refine WC.seq ?_
  refine WC.region ?_
  refine WL.y (Yl.move rfl) rfl ?_
  refine WL.callC (xs := [_, .tmp 3]) (cap := []) rfl rfl en55 (by repeat (first | exact TakeL.nil | (apply TakeL.cons; · repeat (first | exact Take1.head | apply Take1.tail)))) (fun w hw => appM_any gf lb own ts hl eg w hw.left.here) rfl ?_
  rintro ⟨a4, c4⟩ -
  dsimp only [List.cons_append, List.nil_append]
  refine WL.y (Yl.assign rfl) rfl ?_
  refine WL.nil ?_
  refine WC.ret ?_
  repeat (first | (with_reducible refine peelT ?_) | (with_reducible refine peelB ?_) | (with_reducible refine peelTX ?_) | (with_reducible refine peelBX ?_) | (with_reducible refine peelBN ?_) | (with_reducible refine peelBO rfl ?_))
  exact ret1 (.inr rfl) Try.results45 rfl fun w' h => ⟨(a4, c4), trivial, rfl, h.sub (by repeat (first | exact TakeL.nil | (apply TakeL.cons; · repeat (first | exact Take1.head | apply Take1.tail))))⟩
set_option maxRecDepth 100000 in
theorem two_any (t x y : Tm) (ht : t.ok) (hp : t.pt = [x, y]) (hlen : t.enc.length ≤ 1000000) (w : World) (hw : OK w (fpL []) [] w) :
    Fn Try.prog 34 [tmV (some t)] [] w (fun _ : Unit => True) (fun _ => .tuple #[tmV (some x), tmV (some y)]) (fun _ => []) := by
  have ho : OkO (some t) := fun s h => by cases h; exact ht
  have hxy : x.ok ∧ y.ok := by
    cases t with
    | mk k n l =>
      have h := oks_all.1 ((ok_mk k n l).1 ht).2
      have hp : l = [x, y] := hp
      exact ⟨h x (by rw [hp]; simp), h y (by rw [hp]; simp)⟩
  obtain ⟨hx, hy⟩ := hxy
  unfold tmV
  refine enterF Try.func34 rfl Try.ntmps34 rfl hw ?_
  refine WC.seq ?_
  refine WC.region ?_
  refine WL.to (To.box (cs := tmC (some t)) rfl rfl) rfl ?_
  intro b1
  refine WL.to (To.alloc (cs := [.string (strOfNums [])]) zr34 rfl) rfl ?_
  intro b2
  refine WL.to (To.alloc (cs := [.string (strOfNums [])]) zr34 rfl) rfl ?_
  intro b3
  refine WL.nil ?_
  refine WC.seq ?_
  refine WC.region ?_
  refine WL.y (Yl.loadN ag34 rfl (by repeat (first | exact Take1.head | apply Take1.tail)) (by rfl) (show _ = tmC (some t) from rfl)) rfl ?_
  refine WL.callC (xs := [.tmp 5]) (cap := []) rfl rfl en10 (by repeat (first | exact TakeL.nil | (apply TakeL.cons; · repeat (first | exact Take1.head | apply Take1.tail)))) (fun w hw => parts_any (some t) ho hlen w hw.left.here) rfl ?_
  rintro ⟨bn, own⟩ -
  rw [show ptO (some t) = [x, y] from hp]
  dsimp only [List.cons_append, List.nil_append]
  refine WL.callC (xs := [.tmp 6]) (cap := []) rfl rfl en45 (by repeat (first | exact TakeL.nil | (apply TakeL.cons; · repeat (first | exact Take1.head | apply Take1.tail)))) (fun w hw => colM_any 30 [.pointer (some ⟨bn, 0, none⟩)] own [x, y] (show 2 ≤ 1000000 by decide) en30 w hw.left.here) rfl ?_
  rintro ⟨a7, c7⟩ -
  dsimp only [List.cons_append, List.nil_append, List.length_cons, List.length_nil, Nat.zero_add, Nat.reduceAdd]
  refine WL.y (Yl.assign rfl) rfl ?_
  refine WL.nil ?_
  refine WC.seq ?_
  refine WC.drawAny (Hs := [ownR (.slice a7 2 c7) 34 1 2 (vcs tmV ([x, y].map some))]) mixed (by kernel_rfl) ⟨_, (by repeat (first | exact TakeL.nil | (apply TakeL.cons; · repeat (first | exact Take1.head | apply Take1.tail))))⟩ ?_
  refine WD.take 0 rfl (by kernel_rfl) (by kernel_rfl) (by kernel_rfl) rfl rfl (Yl.move rfl) rfl ?_
  refine WD.take 1 rfl (by kernel_rfl) (by kernel_rfl) (by kernel_rfl) rfl rfl (Yl.index (j := 0) un25 sz34 rfl rfl (Reads.of (r := ownR (.slice a7 2 c7) 34 1 2 (vcs tmV ([x, y].map some))) RdOf.own (by repeat (first | exact Take1.head | apply Take1.tail))) rfl (by omega)) rfl ?_
  refine WD.take 2 rfl (by kernel_rfl) (by kernel_rfl) (by kernel_rfl) rfl rfl (Yl.loadV (j := 0) (u := some x) vtM (by intro o ho; simp at ho; rcases ho with rfl | rfl <;> (intro s hs; cases hs; first | exact hx | exact hy)) rfl (Reads.of (r := ownR (.slice a7 2 c7) 34 1 2 (vcs tmV ([x, y].map some))) RdOf.own (by repeat (first | exact Take1.head | apply Take1.tail))) rfl rfl) rfl ?_
  refine WD.take 3 rfl (by kernel_rfl) (by kernel_rfl) (by kernel_rfl) rfl rfl (Yl.move rfl) rfl ?_
  refine WD.take 4 rfl (by kernel_rfl) (by kernel_rfl) (by kernel_rfl) rfl rfl (Yl.index (j := 1) un25 sz34 rfl rfl (Reads.of (r := ownR (.slice a7 2 c7) 34 1 2 (vcs tmV ([x, y].map some))) RdOf.own (by repeat (first | exact Take1.head | apply Take1.tail))) rfl (by omega)) rfl ?_
  refine WD.take 5 rfl (by kernel_rfl) (by kernel_rfl) (by kernel_rfl) rfl rfl (Yl.loadV (j := 1) (u := some y) vtM (by intro o ho; simp at ho; rcases ho with rfl | rfl <;> (intro s hs; cases hs; first | exact hx | exact hy)) rfl (Reads.of (r := ownR (.slice a7 2 c7) 34 1 2 (vcs tmV ([x, y].map some))) RdOf.own (by repeat (first | exact Take1.head | apply Take1.tail))) rfl rfl) rfl ?_
  refine WD.one 6 (by kernel_rfl) ?_
  refine WO.sto rfl rfl .no (Sto.agg sz34 rfl rfl (by repeat (first | exact Take1.head | apply Take1.tail)) (tm_ones _) rfl (by rfl) (show _ = tmC (some x) from rfl)) ⟨_, (by repeat (first | exact TakeL.nil | (apply TakeL.cons; · repeat (first | exact Take1.head | apply Take1.tail))))⟩ ?_
  refine WD.one 7 (by kernel_rfl) ?_
  refine WO.sto rfl rfl .no (Sto.agg sz34 rfl rfl (by repeat (first | exact Take1.head | apply Take1.tail)) (tm_ones _) rfl (by rfl) (show _ = tmC (some y) from rfl)) ⟨_, (by repeat (first | exact TakeL.nil | (apply TakeL.cons; · repeat (first | exact Take1.head | apply Take1.tail))))⟩ ?_
  refine WD.done (by kernel_rfl) ?_
  refine WC.ret ?_
  repeat (first | (with_reducible refine peelT ?_) | (with_reducible refine peelB ?_) | (with_reducible refine peelTX ?_) | (with_reducible refine peelBX ?_) | (with_reducible refine peelBN ?_) | (with_reducible refine peelBO rfl ?_))
  exact retCC (cs := tmC (some x)) (cs2 := tmC (some y)) (.inr rfl) Try.results34 ag34 ag34 rfl rfl (by repeat (first | exact Take1.head | apply Take1.tail)) (by repeat (first | exact Take1.head | apply Take1.tail)) rfl rfl fun w' h => ⟨(), trivial, rfl, h.sub (by repeat (first | exact TakeL.nil | (apply TakeL.cons; · repeat (first | exact Take1.head | apply Take1.tail))))⟩
end Go.Proofs.Ytifhkjcimhhaiaa
