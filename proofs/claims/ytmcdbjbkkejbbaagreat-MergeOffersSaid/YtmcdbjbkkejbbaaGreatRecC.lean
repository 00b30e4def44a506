/- Records: what is put, what is taken: the walks. -/
import Derived.Test.YtmcdbjbkkejbbaaGreatRecB
import Derived.Test.YtmcdbjbkkejbbaaGreatRecQ
namespace Go.Proofs.YtmcdbjbkkejbbaaGreat
open Go Go.RowKit

/-- What a record's bytes and error are. -/
theorem rput_no (r : Rc) (hr : r.ok) (hm : mayB r = false) (w : World) (hw : OK w (fpL []) [] w) :
    Fn Tryz.prog 60 [.agg r.cells.toArray] [] w (fun _ : Unit => True) (fun _ => .tuple #[.slice none 0 0, .int .i64 2]) (fun _ => []) := by
  have h := hr.len
  refine enterF Tryz.func60 rfl Tryz.ntmps60 rfl hw ?_
  refine WC.seq ?_
  refine WC.region ?_
  refine WL.to (To.box (cs := r.cells) rfl rfl) rfl ?_ -- t1
  intro b1
  refine WL.y (Yl.assign rfl) rfl ?_ -- t2
  refine WL.y (Yl.assign rfl) rfl ?_ -- t3
  refine WL.nil ?_
  refine WC.seq ?_
  refine WC.seq ?_
  refine WC.region ?_
  refine WL.y (Yl.loadN ag33 rfl (by repeat (first | exact Take1.head | apply Take1.tail)) (leB (by rw [Rc.cells_len h]; omega)) (Rc.call h)) rfl ?_ -- t5
  refine WL.callC (xs := [.tmp 5]) (cap := []) rfl rfl en48 (by repeat (first | exact TakeL.nil | (apply TakeL.cons; · repeat (first | exact Take1.head | apply Take1.tail)))) (fun w hw => may_any r hr w hw.left.here) rfl ?_ -- t6 hailer/rec.May
  rintro ⟨⟩ -
  rw [hm]
  refine WL.y (Yl.not rfl) rfl ?_ -- t7
  refine WL.nil ?_
  refine WC.condT rfl (by first | rfl | (simp; done) | (simp; omega)) ?_
  refine WC.seq ?_
  refine WC.region ?_
  refine WL.y (Yl.assign rfl) rfl ?_ -- t2
  refine WL.y (Yl.assign rfl) rfl ?_ -- t3
  refine WL.nil ?_
  refine WC.ret ?_
  repeat (first | (with_reducible refine peelT ?_) | (with_reducible refine peelB ?_) | (with_reducible refine peelTX ?_) | (with_reducible refine peelBX ?_) | (with_reducible refine peelBN ?_) | (with_reducible refine peelBO rfl ?_))
  exact ret2 (.inr rfl) Tryz.results60 rfl rfl fun w' hh => ⟨(), trivial, rfl, hh.sub (by repeat (first | exact TakeL.nil | (apply TakeL.cons; · repeat (first | exact Take1.head | apply Take1.tail))))⟩

theorem rput_ok (r : Rc) (hr : r.ok) (hm : mayB r = true) (w : World) (hw : OK w (fpL []) [] w) :
    Fn Tryz.prog 60 [.agg r.cells.toArray] [] w (fun y : Option Addr × Nat => 43 ≤ y.2) (fun y => .tuple #[.slice y.1 43 y.2, .int .i64 0]) (fun y => [ownR (.slice y.1 43 y.2) 5 1 43 (ints .u8 (recB r))]) := by
  have h := hr.len
  have hlo : -9223372036854775808 ≤ (43 : Int) ∧ (43 : Int) ≤ 9223372036854775807 := by omega
  have f0 : Fit 43 (([] : List Int), false) := .inl rfl
  have e1 : pts 43 ([], false) [r.id] = (r.id, false) := pt_ok (by simp [h])
  have f1 : Fit 43 (r.id, false) := .inr (by simp [h])
  have e2 : pt 43 (r.id, false) [r.peer] = (r.id ++ [r.peer], false) := pt_ok (by simp [h])
  have l2 : (r.id ++ [r.peer]).length = 17 := by simp [h]
  have f2 : Fit 43 (r.id ++ [r.peer], false) := .inr (by rw [l2]; omega)
  have e3 : pts 43 (r.id ++ [r.peer], false) ([r.out].map flagB) = (r.id ++ [r.peer] ++ flagB r.out, false) := pt_ok (by rw [l2]; simp [flagB])
  have l3 : (r.id ++ [r.peer] ++ flagB r.out).length = 18 := by rw [List.length_append, l2]; simp [flagB]
  have f3 : Fit 43 (r.id ++ [r.peer] ++ flagB r.out, false) := .inr (by rw [l3]; omega)
  have e4 : pt 43 (r.id ++ [r.peer] ++ flagB r.out, false) [r.oc] = (r.id ++ [r.peer] ++ flagB r.out ++ [r.oc], false) := pt_ok (by rw [l3]; simp)
  have l4 : (r.id ++ [r.peer] ++ flagB r.out ++ [r.oc]).length = 19 := by rw [List.length_append, l3]; simp
  have f4 : Fit 43 (r.id ++ [r.peer] ++ flagB r.out ++ [r.oc], false) := .inr (by rw [l4]; omega)
  have e5 : pts 43 (r.id ++ [r.peer] ++ flagB r.out ++ [r.oc], false) (b8 [r.bg, r.an, r.en]) = (recB r, false) := by
    show pt 43 (pt 43 (pt 43 _ (be r.bg 8)) (be r.an 8)) (be r.en 8) = _
    rw [pt_ok (by rw [l4, be_len]; omega), pt_ok (by rw [List.length_append, l4, be_len, be_len]; omega), pt_ok (by rw [List.length_append, List.length_append, l4, be_len, be_len, be_len]; omega)]
    rfl
  have t5 : total (b8 [r.bg, r.an, r.en]) = 24 := by simp [b8, total, be_len]
  have l5 := recB_len h
  have hl5 : ∀ x ∈ [r.bg, r.an, r.en], 0 ≤ x ∧ x < 18446744073709551616 := by
    intro x hx
    simp at hx
    rcases hx with rfl | rfl | rfl
    · exact hr.bg
    · exact hr.an
    · exact hr.en
  refine enterF Tryz.func60 rfl Tryz.ntmps60 rfl hw ?_
  refine WC.seq ?_
  refine WC.region ?_
  refine WL.to (To.box (cs := r.cells) rfl rfl) rfl ?_ -- t1
  intro b1
  refine WL.y (Yl.assign rfl) rfl ?_ -- t2
  refine WL.y (Yl.assign rfl) rfl ?_ -- t3
  refine WL.nil ?_
  refine WC.seq ?_
  refine WC.seq ?_
  refine WC.region ?_
  refine WL.y (Yl.loadN ag33 rfl (by repeat (first | exact Take1.head | apply Take1.tail)) (leB (by rw [Rc.cells_len h]; omega)) (Rc.call h)) rfl ?_ -- t5
  refine WL.callC (xs := [.tmp 5]) (cap := []) rfl rfl en48 (by repeat (first | exact TakeL.nil | (apply TakeL.cons; · repeat (first | exact Take1.head | apply Take1.tail)))) (fun w hw => may_any r hr w hw.left.here) rfl ?_ -- t6 hailer/rec.May
  rintro ⟨⟩ -
  rw [hm]
  refine WL.y (Yl.not rfl) rfl ?_ -- t7
  refine WL.nil ?_
  refine WC.condF rfl (by first | rfl | (simp; done) | (simp; omega)) ?_
  refine WC.skip ?_
  refine WC.seq ?_
  refine WC.region ?_
  refine WL.callC (xs := [_]) (cap := []) rfl rfl en77 (by repeat (first | exact TakeL.nil | (apply TakeL.cons; · repeat (first | exact Take1.head | apply Take1.tail)))) (fun w hw => newOut_any 43 w hw.left.here) rfl ?_ -- t8 hailer/wire.NewOut
  intro b8 _
  refine WL.y (Yl.assign rfl) rfl ?_ -- t4
  refine WL.nil ?_
  refine WC.seq ?_
  refine WC.region ?_
  refine WL.y (Yl.move rfl) rfl ?_ -- t9
  refine WL.y (Yl.field fo33_0 rfl) rfl ?_ -- t10
  refine WL.y (Yl.sliceArr un30 sz5 (by decide) rfl) rfl ?_ -- t11
  refine WL.to (To.buildSlice (vs := [.slice (some ⟨b1, 0 + 0, none⟩) 16 16]) un123 zs23 rfl rfl (by simp [Value.cells]) (by decide) (by decide)) rfl ?_ -- t12
  intro b12
  refine WL.callC (xs := [.tmp 9, .tmp 12]) (cap := []) rfl rfl en78 (by repeat (first | exact TakeL.nil | (apply TakeL.cons; · repeat (first | exact Take1.head | apply Take1.tail)))) (fun w hw => outFixed_any b8 (none, 0) 43 [] false [r.id] [.slice (some ⟨b1, 0, none⟩) 16 16] (.slice (some ⟨b12, 0, none⟩) 1 1) rfl hlo f0 (by simp [total, h]) w (hw.src (RdOf.blk (cs := [.slice (some ⟨b1, 0, none⟩) 16 16]) (Nat.le_refl _) (by unfold maxLen; omega) (by simp) rfl) (by repeat (first | exact Take1.head | apply Take1.tail))) (fixed1 (by rw [h]; exact hw.src (RdOf.blk (cs := r.cells) (Nat.le_refl _) (by unfold maxLen; omega) (by rw [Rc.cells_len h]; omega) (Rc.cid h)) (by repeat (first | exact Take1.head | apply Take1.tail)))) hw.left.here) rfl ?_ -- t13 (*hailer/wire.Out).Fixed
  intro y13 _
  rw [e1]
  dsimp only
  refine WL.nil ?_
  refine WC.seq ?_
  refine WC.region ?_
  refine WL.y (Yl.move rfl) rfl ?_ -- t14
  refine WL.y (Yl.field fo33_1 rfl) rfl ?_ -- t15
  refine WL.y (Yl.load on5 rfl (by repeat (first | exact Take1.head | apply Take1.tail)) (Rc.c16 h)) rfl ?_ -- t16
  refine WL.to (To.buildSlice (vs := [.int .u8 r.peer]) un23 zs5 rfl rfl (by simp [Value.cells]) (by decide) (by decide)) rfl ?_ -- t17
  intro b17
  refine WL.callC (xs := [.tmp 14, .tmp 17]) (cap := []) rfl rfl en79 (by repeat (first | exact TakeL.nil | (apply TakeL.cons; · repeat (first | exact Take1.head | apply Take1.tail)))) (fun w hw => outU8_any b8 y13 43 r.id false [r.peer] (.slice (some ⟨b17, 0, none⟩) 1 1) hlo f1 (by simp [h]) w (hw.src (RdOf.blk (cs := [.int .u8 r.peer]) (Nat.le_refl _) (by unfold maxLen; omega) (by simp) rfl) (by repeat (first | exact Take1.head | apply Take1.tail))) hw.left.here) rfl ?_ -- t18 (*hailer/wire.Out).U8
  intro y18 _
  rw [e2]
  dsimp only
  refine WL.nil ?_
  refine WC.seq ?_
  refine WC.region ?_
  refine WL.y (Yl.move rfl) rfl ?_ -- t19
  refine WL.y (Yl.field fo33_2 rfl) rfl ?_ -- t20
  refine WL.y (Yl.load on4 rfl (by repeat (first | exact Take1.head | apply Take1.tail)) (Rc.c17 h)) rfl ?_ -- t21
  refine WL.to (To.buildSlice (vs := [.bool r.out]) un139 zs4 rfl rfl (by simp [Value.cells]) (by decide) (by decide)) rfl ?_ -- t22
  intro b22
  refine WL.callC (xs := [.tmp 19, .tmp 22]) (cap := []) rfl rfl en80 (by repeat (first | exact TakeL.nil | (apply TakeL.cons; · repeat (first | exact Take1.head | apply Take1.tail)))) (fun w hw => outFlag_any b8 y18 43 (r.id ++ [r.peer]) false [r.out] (.slice (some ⟨b22, 0, none⟩) 1 1) hlo f2 (by rw [l2]; simp [total, flagB]) w (hw.src (RdOf.blk (cs := [.bool r.out]) (Nat.le_refl _) (by unfold maxLen; omega) (by simp) rfl) (by repeat (first | exact Take1.head | apply Take1.tail))) hw.left.here) rfl ?_ -- t23 (*hailer/wire.Out).Flag
  intro y23 _
  rw [e3]
  dsimp only
  refine WL.nil ?_
  refine WC.seq ?_
  refine WC.region ?_
  refine WL.y (Yl.move rfl) rfl ?_ -- t24
  refine WL.y (Yl.field fo33_3 rfl) rfl ?_ -- t25
  refine WL.y (Yl.load on5 rfl (by repeat (first | exact Take1.head | apply Take1.tail)) (Rc.c18 h)) rfl ?_ -- t26
  refine WL.to (To.buildSlice (vs := [.int .u8 r.oc]) un23 zs5 rfl rfl (by simp [Value.cells]) (by decide) (by decide)) rfl ?_ -- t27
  intro b27
  refine WL.callC (xs := [.tmp 24, .tmp 27]) (cap := []) rfl rfl en79 (by repeat (first | exact TakeL.nil | (apply TakeL.cons; · repeat (first | exact Take1.head | apply Take1.tail)))) (fun w hw => outU8_any b8 y23 43 (r.id ++ [r.peer] ++ flagB r.out) false [r.oc] (.slice (some ⟨b27, 0, none⟩) 1 1) hlo f3 (by rw [l3]; simp) w (hw.src (RdOf.blk (cs := [.int .u8 r.oc]) (Nat.le_refl _) (by unfold maxLen; omega) (by simp) rfl) (by repeat (first | exact Take1.head | apply Take1.tail))) hw.left.here) rfl ?_ -- t28 (*hailer/wire.Out).U8
  intro y28 _
  rw [e4]
  dsimp only
  refine WL.nil ?_
  refine WC.seq ?_
  refine WC.region ?_
  refine WL.y (Yl.move rfl) rfl ?_ -- t29
  refine WL.y (Yl.field fo33_4 rfl) rfl ?_ -- t30
  refine WL.y (Yl.load on31 rfl (by repeat (first | exact Take1.head | apply Take1.tail)) (Rc.c19 h)) rfl ?_ -- t31
  refine WL.y (Yl.field fo33_5 rfl) rfl ?_ -- t32
  refine WL.y (Yl.load on31 rfl (by repeat (first | exact Take1.head | apply Take1.tail)) (Rc.c20 h)) rfl ?_ -- t33
  refine WL.y (Yl.field fo33_6 rfl) rfl ?_ -- t34
  refine WL.y (Yl.load on31 rfl (by repeat (first | exact Take1.head | apply Take1.tail)) (Rc.c21 h)) rfl ?_ -- t35
  refine WL.to (To.buildSlice (vs := [.int .u64 r.bg, .int .u64 r.an, .int .u64 r.en]) un92 zs31 rfl rfl (by simp [Value.cells]) (by decide) (by decide)) rfl ?_ -- t36
  intro b36
  refine WL.callC (xs := [.tmp 29, .tmp 36]) (cap := []) rfl rfl en81 (by repeat (first | exact TakeL.nil | (apply TakeL.cons; · repeat (first | exact Take1.head | apply Take1.tail)))) (fun w hw => outU64_any b8 y28 43 (r.id ++ [r.peer] ++ flagB r.out ++ [r.oc]) false [r.bg, r.an, r.en] (.slice (some ⟨b36, 0, none⟩) 3 3) hlo f4 (by rw [l4, t5]; omega) hl5 w (hw.src (RdOf.blk (cs := [.int .u64 r.bg, .int .u64 r.an, .int .u64 r.en]) (Nat.le_refl _) (by unfold maxLen; omega) (by simp) rfl) (by repeat (first | exact Take1.head | apply Take1.tail))) hw.left.here) rfl ?_ -- t37 (*hailer/wire.Out).U64
  intro y37 _
  rw [e5]
  dsimp only
  refine WL.nil ?_
  refine WC.seq ?_
  refine WC.region ?_
  refine WL.y (Yl.move rfl) rfl ?_ -- t38
  refine WL.callC (xs := [.tmp 38]) (cap := []) rfl rfl en82 (by repeat (first | exact TakeL.nil | (apply TakeL.cons; · repeat (first | exact Take1.head | apply Take1.tail)))) (fun w hw => outBytes_ok b8 y37 43 (recB r) (by omega) (by rw [l5]; omega) w hw.left.here) rfl ?_ -- t39 (*hailer/wire.Out).Bytes
  rintro ⟨a39, c39⟩ hc39
  dsimp only at hc39 ⊢
  rw [l5] at hc39 ⊢
  refine WL.y (Yl.extract rfl rfl) rfl ?_ -- t40
  refine WL.y (Yl.extract rfl rfl) rfl ?_ -- t41
  refine WL.y (Yl.assign rfl) rfl ?_ -- t2
  refine WL.y (Yl.assign rfl) rfl ?_ -- t3
  refine WL.nil ?_
  refine WC.ret ?_
  repeat (first | (with_reducible refine peelT ?_) | (with_reducible refine peelB ?_) | (with_reducible refine peelTX ?_) | (with_reducible refine peelBX ?_) | (with_reducible refine peelBN ?_) | (with_reducible refine peelBO rfl ?_))
  exact ret2 (.inr rfl) Tryz.results60 rfl rfl fun w' hh => ⟨(a39, c39), hc39, rfl, hh.sub (by repeat (first | exact TakeL.nil | (apply TakeL.cons; · repeat (first | exact Take1.head | apply Take1.tail))))⟩

set_option maxRecDepth 100000 in
theorem rtakeP_any (bs : List Int) (v : Value) (hB : Bytes bs) (hsz : bs.length ≤ 140737488355328) (w : World) (hx : RdS w (fpL []) v 1 bs.length (ints .u8 bs)) (hw : OK w (fpL []) [] w) :
    Fn Tryz.prog 66 [v] [] w (fun _ : Unit => True) (fun _ => .tuple #[.agg (recT bs).1.cells.toArray, .int .i64 (errT (recT bs).2)]) (fun _ => []) := by
  obtain ⟨T1, hT1⟩ : ∃ B, tkR 16 bs false = B := ⟨_, rfl⟩
  obtain ⟨B1, hB1⟩ : ∃ B, tkB 16 bs false = B := ⟨_, rfl⟩
  obtain ⟨W1, hW1⟩ : ∃ B, tkW 16 bs false = B := ⟨_, rfl⟩
  obtain ⟨p, hp⟩ : ∃ B, val (tkR 1 B1 W1) = B := ⟨_, rfl⟩
  obtain ⟨B2, hB2⟩ : ∃ B, tkB 1 B1 W1 = B := ⟨_, rfl⟩
  obtain ⟨W2, hW2⟩ : ∃ B, tkW 1 B1 W1 = B := ⟨_, rfl⟩
  obtain ⟨o, ho⟩ : ∃ B, flR B2 W2 = B := ⟨_, rfl⟩
  obtain ⟨B3, hB3⟩ : ∃ B, tkB 1 B2 W2 = B := ⟨_, rfl⟩
  obtain ⟨W3, hW3⟩ : ∃ B, flW B2 W2 = B := ⟨_, rfl⟩
  obtain ⟨q, hq⟩ : ∃ B, val (tkR 1 B3 W3) = B := ⟨_, rfl⟩
  obtain ⟨B4, hB4⟩ : ∃ B, tkB 1 B3 W3 = B := ⟨_, rfl⟩
  obtain ⟨W4, hW4⟩ : ∃ B, tkW 1 B3 W3 = B := ⟨_, rfl⟩
  obtain ⟨n1, hn1⟩ : ∃ B, val (tkR 8 B4 W4) = B := ⟨_, rfl⟩
  obtain ⟨B5, hB5⟩ : ∃ B, tkB 8 B4 W4 = B := ⟨_, rfl⟩
  obtain ⟨W5, hW5⟩ : ∃ B, tkW 8 B4 W4 = B := ⟨_, rfl⟩
  obtain ⟨n2, hn2⟩ : ∃ B, val (tkR 8 B5 W5) = B := ⟨_, rfl⟩
  obtain ⟨B6, hB6⟩ : ∃ B, tkB 8 B5 W5 = B := ⟨_, rfl⟩
  obtain ⟨W6, hW6⟩ : ∃ B, tkW 8 B5 W5 = B := ⟨_, rfl⟩
  obtain ⟨n3, hn3⟩ : ∃ B, val (tkR 8 B6 W6) = B := ⟨_, rfl⟩
  obtain ⟨B7, hB7⟩ : ∃ B, tkB 8 B6 W6 = B := ⟨_, rfl⟩
  obtain ⟨W7, hW7⟩ : ∃ B, tkW 8 B6 W6 = B := ⟨_, rfl⟩
  have law := take_law hB hT1 hB1 hW1 hp hB2 hW2 ho hB3 hW3 hq hB4 hW4 hn1 hB5 hW5 hn2 hB6 hW6 hn3 hB7 hW7
  have hT1l : T1.length ≤ 16 := hT1 ▸ tkR_len 16 bs false
  have k1 : Bytes B1 := hB1 ▸ hB.tkB 16 false
  have k2 : Bytes B2 := hB2 ▸ k1.tkB 1 W1
  have k3 : Bytes B3 := hB3 ▸ k2.tkB 1 W2
  have k4 : Bytes B4 := hB4 ▸ k3.tkB 1 W3
  have k5 : Bytes B5 := hB5 ▸ k4.tkB 8 W4
  have k6 : Bytes B6 := hB6 ▸ k5.tkB 8 W5
  have hok : (Rc.mk (pad16 T1) p o q n1 n2 n3).ok := ⟨pad16_len hT1l, pad16_bytes (hT1 ▸ hB.tkR 16 false), hp ▸ u8_val k1 W1, hq ▸ u8_val k3 W3, hn1 ▸ u64_val k4 W4, hn2 ▸ u64_val k5 W5, hn3 ▸ u64_val k6 W6⟩
  have hz : Rc.zero.id.length = 16 := rfl
  have hpl := pad16_len hT1l
  refine enterF Tryz.func66 rfl Tryz.ntmps66 rfl hw ?_
  refine WC.seq ?_
  refine WC.region ?_
  refine WL.to (To.alloc (cs := Rc.zero.cells) zr33 rfl) rfl ?_ -- t2
  intro b2
  refine WL.y (Yl.assign rfl) rfl ?_ -- t3
  refine WL.nil ?_
  refine WC.seq ?_
  refine WC.region ?_
  refine WL.to (To.alloc (cs := Rc.zero.cells) zr33 rfl) rfl ?_ -- t4
  intro b4
  refine WL.nil ?_
  refine WC.seq ?_
  refine WC.region ?_
  refine WL.y (Yl.move rfl) rfl ?_ -- t6
  refine WL.callC (xs := [.tmp 6]) (cap := []) rfl rfl en85 (by repeat (first | exact TakeL.nil | (apply TakeL.cons; · repeat (first | exact Take1.head | apply Take1.tail)))) (fun w hw => newIn_any v bs hsz w (hw.srcS hx) hw.left.here) rfl ?_ -- t7 hailer/wire.NewIn
  rintro ⟨b7, a7, c7⟩ hc7
  dsimp only at hc7 ⊢
  obtain ⟨r, hr⟩ : ∃ r, r = ownR (.slice a7 bs.length c7) 5 1 bs.length (ints .u8 bs) := ⟨_, rfl⟩
  have r0 : RdOf r (.slice a7 bs.length c7) 1 bs.length (ints .u8 bs) := by rw [hr]; exact RdOf.own
  rw [← hr]
  refine WL.y (Yl.assign rfl) rfl ?_ -- t5
  refine WL.nil ?_
  refine WC.midE (α := Option Addr × Nat) (fun _ => []) (fun z => [inR b7 (.slice z.1 B1.length z.2) W1, r, blkR b4 33 { Rc.zero with id := pad16 T1 }.cells, blkR b2 33 Rc.zero.cells]) (fun z => RdOf r (.slice z.1 B1.length z.2) 1 B1.length (ints .u8 B1) ∧ B1.length ≤ z.2) ?_ ?_
  · refine WC.drawAny (Hs := []) mixed (by kernel_rfl) ⟨_, (by repeat (first | exact TakeL.nil | (apply TakeL.cons; · repeat (first | exact Take1.head | apply Take1.tail))))⟩ ?_
    refine WD.take 0 rfl (by kernel_rfl) (by kernel_rfl) (by kernel_rfl) rfl rfl (Yl.field fo33_0 rfl) rfl ?_ -- t8
    refine WD.take 1 rfl (by kernel_rfl) (by kernel_rfl) (by kernel_rfl) rfl rfl (Yl.sliceArr un30 sz5 (by decide) rfl) rfl ?_ -- t9
    refine WD.take 2 rfl (by kernel_rfl) (by kernel_rfl) (by kernel_rfl) rfl rfl (Yl.move rfl) rfl ?_ -- t10
    refine WD.one 3 (by kernel_rfl) ?_
    refine WO.callC (xs := [.tmp 10, _]) (cap := []) rfl .no rfl rfl en86 (by repeat (first | exact TakeL.nil | (apply TakeL.cons; · repeat (first | exact Take1.head | apply Take1.tail)))) (fun w hw => inFixed_any b7 a7 c7 16 bs false r r0 hc7 w hw.left.here) rfl (fun _ => ⟨_, (by repeat (first | exact TakeL.nil | (apply TakeL.cons; · repeat (first | exact Take1.head | apply Take1.tail))))⟩) ?_ -- t11 (*hailer/wire.In).Fixed
    rintro ⟨⟨a11, c11⟩, z⟩ ⟨q1, q2, q3, q4⟩
    dsimp only at q1 q2 q3 q4 ⊢
    rw [hT1] at q1 q2
    rw [hB1] at q3 q4
    rw [hT1, hB1, hW1]
    refine WD.one 4 (by kernel_rfl) ?_
    refine WO.to rfl rfl .no (To.copy un23 sz5 rfl rfl (by repeat (first | exact Take1.head | apply Take1.tail)) (Reads.of q1 (by repeat (first | exact Take1.head | apply Take1.tail))) (ints_one _ _) (by rfl) (copy_id hT1l)) rfl (fun _ => ⟨_, (by repeat (first | exact TakeL.nil | (apply TakeL.cons; · repeat (first | exact Take1.head | apply Take1.tail))))⟩) ?_
    rintro ⟨⟩
    refine WD.done (by kernel_rfl) ?_
    exact ⟨rfl, z, ⟨q3, q4⟩, (by repeat (first | exact Sub.nil | refine Sub.cons rfl ?_)), (by repeat (first | exact Sub.nil | refine Sub.cons rfl ?_)), _, (by repeat (first | exact TakeL.nil | (apply TakeL.cons; · repeat (first | exact Take1.head | apply Take1.tail))))⟩
  · rintro ⟨a1, c1⟩ ⟨r1, hc1⟩
    dsimp only at r1 hc1 ⊢
    refine WC.seq ?_
    refine WC.region ?_
    refine WL.y (Yl.move rfl) rfl ?_ -- t13
    refine WL.callC (xs := [.tmp 13]) (cap := []) rfl rfl en87 (by repeat (first | exact TakeL.nil | (apply TakeL.cons; · repeat (first | exact Take1.head | apply Take1.tail)))) (fun w hw => inU8_any b7 a1 c1 B1 W1 r r1 hc1 k1 w hw.left.here) rfl ?_ -- t14 (*hailer/wire.In).U8
    rintro ⟨a2, c2⟩ ⟨r2, hc2⟩
    dsimp only at r2 hc2 ⊢
    rw [hB2] at r2 hc2
    rw [hp, hB2, hW2]
    refine WL.y (Yl.move rfl) rfl ?_ -- t15
    refine WL.callC (xs := [.tmp 15]) (cap := []) rfl rfl en88 (by repeat (first | exact TakeL.nil | (apply TakeL.cons; · repeat (first | exact Take1.head | apply Take1.tail)))) (fun w hw => inFlag_any b7 a2 c2 B2 W2 r r2 hc2 k2 w hw.left.here) rfl ?_ -- t16 (*hailer/wire.In).Flag
    rintro ⟨a3, c3⟩ ⟨r3, hc3⟩
    dsimp only at r3 hc3 ⊢
    rw [hB3] at r3 hc3
    rw [ho, hB3, hW3]
    refine WL.y (Yl.move rfl) rfl ?_ -- t17
    refine WL.callC (xs := [.tmp 17]) (cap := []) rfl rfl en87 (by repeat (first | exact TakeL.nil | (apply TakeL.cons; · repeat (first | exact Take1.head | apply Take1.tail)))) (fun w hw => inU8_any b7 a3 c3 B3 W3 r r3 hc3 k3 w hw.left.here) rfl ?_ -- t18 (*hailer/wire.In).U8
    rintro ⟨a4, c4⟩ ⟨r4, hc4⟩
    dsimp only at r4 hc4 ⊢
    rw [hB4] at r4 hc4
    rw [hq, hB4, hW4]
    refine WL.y (Yl.field fo33_1 rfl) rfl ?_ -- t19
    refine WL.sto (Sto.one sz5 rfl rfl (by repeat (first | exact Take1.head | apply Take1.tail)) rfl (ltB (by rw [Rc.cells_len hpl]; omega)) (Rc.s16 (r := { Rc.zero with id := pad16 T1 }) hpl p)) (fun _ h => nomatch h) ?_
    refine WL.y (Yl.field fo33_2 rfl) rfl ?_ -- t20
    refine WL.sto (Sto.one sz4 rfl rfl (by repeat (first | exact Take1.head | apply Take1.tail)) rfl (ltB (by rw [Rc.cells_len hpl]; omega)) (Rc.s17 (r := { Rc.zero with id := pad16 T1, peer := p }) hpl o)) (fun _ h => nomatch h) ?_
    refine WL.y (Yl.field fo33_3 rfl) rfl ?_ -- t21
    refine WL.sto (Sto.one sz5 rfl rfl (by repeat (first | exact Take1.head | apply Take1.tail)) rfl (ltB (by rw [Rc.cells_len hpl]; omega)) (Rc.s18 (r := { Rc.zero with id := pad16 T1, peer := p, out := o }) hpl q)) (fun _ h => nomatch h) ?_
    refine WL.nil ?_
    refine WC.seq ?_
    refine WC.region ?_
    refine WL.y (Yl.move rfl) rfl ?_ -- t22
    refine WL.callC (xs := [.tmp 22]) (cap := []) rfl rfl en89 (by repeat (first | exact TakeL.nil | (apply TakeL.cons; · repeat (first | exact Take1.head | apply Take1.tail)))) (fun w hw => inU64_any b7 a4 c4 B4 W4 r r4 hc4 k4 w hw.left.here) rfl ?_ -- t23 (*hailer/wire.In).U64
    rintro ⟨a5, c5⟩ ⟨r5, hc5⟩
    dsimp only at r5 hc5 ⊢
    rw [hB5] at r5 hc5
    rw [hn1, hB5, hW5]
    refine WL.y (Yl.move rfl) rfl ?_ -- t24
    refine WL.callC (xs := [.tmp 24]) (cap := []) rfl rfl en89 (by repeat (first | exact TakeL.nil | (apply TakeL.cons; · repeat (first | exact Take1.head | apply Take1.tail)))) (fun w hw => inU64_any b7 a5 c5 B5 W5 r r5 hc5 k5 w hw.left.here) rfl ?_ -- t25 (*hailer/wire.In).U64
    rintro ⟨a6, c6⟩ ⟨r6, hc6⟩
    dsimp only at r6 hc6 ⊢
    rw [hB6] at r6 hc6
    rw [hn2, hB6, hW6]
    refine WL.y (Yl.move rfl) rfl ?_ -- t26
    refine WL.callC (xs := [.tmp 26]) (cap := []) rfl rfl en89 (by repeat (first | exact TakeL.nil | (apply TakeL.cons; · repeat (first | exact Take1.head | apply Take1.tail)))) (fun w hw => inU64_any b7 a6 c6 B6 W6 r r6 hc6 k6 w hw.left.here) rfl ?_ -- t27 (*hailer/wire.In).U64
    rintro ⟨a7', c7'⟩ ⟨r7, hc7'⟩
    dsimp only at r7 hc7' ⊢
    rw [hB7] at r7 hc7'
    rw [hn3, hB7, hW7]
    refine WL.y (Yl.field fo33_4 rfl) rfl ?_ -- t28
    refine WL.sto (Sto.one sz31 rfl rfl (by repeat (first | exact Take1.head | apply Take1.tail)) rfl (ltB (by rw [Rc.cells_len hpl]; omega)) (Rc.s19 (r := { Rc.zero with id := pad16 T1, peer := p, out := o, oc := q }) hpl n1)) (fun _ h => nomatch h) ?_
    refine WL.y (Yl.field fo33_5 rfl) rfl ?_ -- t29
    refine WL.sto (Sto.one sz31 rfl rfl (by repeat (first | exact Take1.head | apply Take1.tail)) rfl (ltB (by rw [Rc.cells_len hpl]; omega)) (Rc.s20 (r := { Rc.zero with id := pad16 T1, peer := p, out := o, oc := q, bg := n1 }) hpl n2)) (fun _ h => nomatch h) ?_
    refine WL.y (Yl.field fo33_6 rfl) rfl ?_ -- t30
    refine WL.sto (Sto.one sz31 rfl rfl (by repeat (first | exact Take1.head | apply Take1.tail)) rfl (ltB (by rw [Rc.cells_len hpl]; omega)) (Rc.s21 (r := { Rc.zero with id := pad16 T1, peer := p, out := o, oc := q, bg := n1, an := n2 }) hpl n3)) (fun _ h => nomatch h) ?_
    refine WL.nil ?_
    refine WC.seq ?_
    refine WC.midK [(38, .bool (!(decide (endE B7 W7 = 0) && mayB (Rc.mk (pad16 T1) p o q n1 n2 n3))))] [blkR b4 33 (Rc.mk (pad16 T1) p o q n1 n2 n3).cells, blkR b2 33 Rc.zero.cells] ?_ ?_
    · refine WC.region ?_
      refine WL.y (Yl.move rfl) rfl ?_ -- t31
      refine WL.callC (xs := [.tmp 31]) (cap := []) rfl rfl en90 (by repeat (first | exact TakeL.nil | (apply TakeL.cons; · repeat (first | exact Take1.head | apply Take1.tail)))) (fun w hw => inEnd_any b7 a7' c7' B7 W7 w hw.left.here) rfl ?_ -- t32 (*hailer/wire.In).End
      rintro ⟨⟩ -
      refine WL.y (Yl.neq rfl rfl) rfl ?_ -- t33
      refine WL.y (Yl.move rfl) rfl ?_ -- t34
      refine WL.both (t := 34) rfl (fun g34 => ?_) (fun g34 => ?_)
      · refine WL.off rfl rfl rfl rfl ?_ -- t35
        refine WL.off rfl rfl rfl rfl ?_ -- t36
        refine WL.off rfl rfl rfl rfl ?_ -- t37
        refine WL.y (Yl.pickT rfl rfl) rfl ?_ -- t38
        refine WL.say (t := 38) (v' := .bool (!(decide (endE B7 W7 = 0) && mayB (Rc.mk (pad16 T1) p o q n1 n2 n3)))) rfl (by (refine congrArg Value.bool ?_; rw [Bool.eq_iff_iff]; simp at g34; simp [g34])) ?_
        refine WL.nil ?_
        exact ⟨rfl, (by repeat (first | exact Sub.nil | refine Sub.cons rfl ?_)), (by repeat (first | exact Sub.nil | refine Sub.cons rfl ?_)), _, (by repeat (first | exact TakeL.nil | (apply TakeL.cons; · repeat (first | exact Take1.head | apply Take1.tail))))⟩
      · refine WL.on rfl rfl ?_
        refine WL.y (Yl.loadN ag33 rfl (by repeat (first | exact Take1.head | apply Take1.tail)) (leB (by rw [Rc.cells_len hpl]; omega)) (Rc.call (r := Rc.mk (pad16 T1) p o q n1 n2 n3) hpl)) rfl ?_ -- t35
        refine WL.on rfl rfl ?_
        refine WL.callC (xs := [.tmp 35]) (cap := []) rfl rfl en48 (by repeat (first | exact TakeL.nil | (apply TakeL.cons; · repeat (first | exact Take1.head | apply Take1.tail)))) (fun w hw => may_any (Rc.mk (pad16 T1) p o q n1 n2 n3) hok w hw.left.here) rfl ?_ -- t36 hailer/rec.May
        rintro ⟨⟩ -
        refine WL.on rfl rfl ?_
        refine WL.y (Yl.not rfl) rfl ?_ -- t37
        refine WL.y (Yl.pickF rfl rfl) rfl ?_ -- t38
        refine WL.say (t := 38) (v' := .bool (!(decide (endE B7 W7 = 0) && mayB (Rc.mk (pad16 T1) p o q n1 n2 n3)))) rfl (by (refine congrArg Value.bool ?_; rw [Bool.eq_iff_iff]; simp at g34; simp [g34])) ?_
        refine WL.nil ?_
        exact ⟨rfl, (by repeat (first | exact Sub.nil | refine Sub.cons rfl ?_)), (by repeat (first | exact Sub.nil | refine Sub.cons rfl ?_)), _, (by repeat (first | exact TakeL.nil | (apply TakeL.cons; · repeat (first | exact Take1.head | apply Take1.tail))))⟩
    · refine WC.cond rfl (fun g38 => ?_) (fun g38 => ?_)
      · refine WC.seq ?_
        refine WC.region ?_
        refine WL.y (Yl.build rfl (cs := Rc.zero.cells) (fun _ => by kernel_rfl)) rfl ?_ -- t39
        refine WL.sto (Sto.agg sz33 rfl rfl (by repeat (first | exact Take1.head | apply Take1.tail)) (Rc.ones _) rfl (by rfl) (Rc.all (r := Rc.zero) rfl Rc.zero.cells rfl)) (fun _ h => nomatch h) ?_ -- st 7
        refine WL.y (Yl.assign rfl) rfl ?_ -- t3
        refine WL.nil ?_
        refine WC.ret ?_
        repeat (first | (with_reducible refine peelT ?_) | (with_reducible refine peelB ?_) | (with_reducible refine peelTX ?_) | (with_reducible refine peelBX ?_) | (with_reducible refine peelBN ?_) | (with_reducible refine peelBO rfl ?_))
        have e : recT bs = (Rc.zero, false) := by rw [← law, notT g38]; rfl
        exact retC2 (.inr rfl) Tryz.results66 ag33 rfl rfl (by repeat (first | exact Take1.head | apply Take1.tail)) rfl fun w' hh => ⟨(), trivial, by rw [e]; rfl, hh.sub (by repeat (first | exact TakeL.nil | (apply TakeL.cons; · repeat (first | exact Take1.head | apply Take1.tail))))⟩
      · refine WC.skip ?_
        refine WC.seq ?_
        refine WC.region ?_
        refine WL.y (Yl.loadN ag33 rfl (by repeat (first | exact Take1.head | apply Take1.tail)) (leB (by rw [Rc.cells_len hpl]; omega)) (Rc.call (r := Rc.mk (pad16 T1) p o q n1 n2 n3) hpl)) rfl ?_ -- t40
        refine WL.sto (Sto.agg sz33 rfl rfl (by repeat (first | exact Take1.head | apply Take1.tail)) (Rc.ones _) (Rc.cells_len hpl) (by rfl) (Rc.all (r := Rc.zero) rfl (Rc.mk (pad16 T1) p o q n1 n2 n3).cells (Rc.cells_len hpl))) (fun _ h => nomatch h) ?_ -- st 8
        refine WL.y (Yl.assign rfl) rfl ?_ -- t3
        refine WL.nil ?_
        refine WC.ret ?_
        repeat (first | (with_reducible refine peelT ?_) | (with_reducible refine peelB ?_) | (with_reducible refine peelTX ?_) | (with_reducible refine peelBX ?_) | (with_reducible refine peelBN ?_) | (with_reducible refine peelBO rfl ?_))
        have e : recT bs = (Rc.mk (pad16 T1) p o q n1 n2 n3, true) := by rw [← law, notF g38]; rfl
        exact retC2 (.inr rfl) Tryz.results66 ag33 rfl rfl (by repeat (first | exact Take1.head | apply Take1.tail)) (Rc.cells_len hpl) fun w' hh => ⟨(), trivial, by rw [e]; rfl, hh.sub (by repeat (first | exact TakeL.nil | (apply TakeL.cons; · repeat (first | exact Take1.head | apply Take1.tail))))⟩
end Go.Proofs.YtmcdbjbkkejbbaaGreat
