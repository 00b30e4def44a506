/- Signals: put, take. -/
import Derived.Test.YtnmeoleahcnnkaaSignE
namespace Go.Proofs.Ytnmeoleahcnnkaa
open Go Go.RowKit

theorem pts_all {lim : Int} : ∀ {l : List (List Int)} {bs : List Int}, (bs.length : Int) + total l ≤ lim → pts lim (bs, false) l = (bs ++ l.flatten, false)
  | [], bs, _ => by simp [pts]
  | x :: l, bs, h => by
    have e : total (x :: l) = x.length + total l := rfl
    rw [e] at h
    show pts lim (pt lim (bs, false) x) l = _
    rw [pt_ok (by simp at h ⊢; omega), pts_all (by simp at h ⊢; omega)]
    simp
theorem chk_flat (s : Sg) : (chk s).flatten = sigP s := by
  unfold chk sigP; repeat' split
  all_goals simp
theorem chk_total {s : Sg} (h : s.ok) (hd : s.data.length ≤ 1024) : total (chk s) ≤ 1030 := by
  have hk := h.kl
  unfold chk; repeat' split
  all_goals simp [total, be_len]
  all_goals omega
theorem sigB_len {s : Sg} (h : s.ok) : (sigB s).length ≤ 52 + s.data.length := by
  by_cases k1 : s.kind = 1
  · rw [(sigB_1 h k1).1]; omega
  by_cases k2 : s.kind = 2
  · rw [(sigB_2 h k2).1]; omega
  by_cases k3 : s.kind = 3
  · rw [(sigB_3 h k3).1]; omega
  by_cases k5 : s.kind = 5
  · rw [(sigB_5 h k5).1]; omega
  · rw [(sigB_0 h k1 k2 k3 k5).1]; omega
theorem mayS_data {s : Sg} (h : mayS s = true) : s.data.length ≤ 1024 := by
  have h2 := h
  unfold mayS at h2
  split at h2
  · rename_i k
    unfold bad6 at h2
    rw [k] at h2
    simp at h2
    simp_all
  · simp at h2; omega

/-- What is put, and the error. -/
def putS (s : Sg) : List Int := if mayS s then sigB s else []
def errS (s : Sg) : Int := if mayS s then 0 else 2
theorem sput_no (s : Sg) (hs : s.ok) (hm : mayS s = false) (w : World) (hw : OK w (fpL []) [] w) :
    Fn Try.prog 7 [.agg s.cells.toArray] [] w (fun _ : Unit => True) (fun _ => .tuple #[.slice none 0 0, .int .i64 2]) (fun _ => []) := by
  refine enterF Try.func7 rfl Try.ntmps7 rfl hw ?_
  refine WC.seq ?_
  refine WC.region ?_
  refine WL.to (To.box (cs := s.cells) rfl rfl) rfl ?_ -- t1
  intro b1
  refine WL.y (Yl.assign rfl) rfl ?_ -- t2
  refine WL.y (Yl.assign rfl) rfl ?_ -- t3
  refine WL.nil ?_
  refine WC.seq ?_
  refine WC.seq ?_
  refine WC.region ?_
  refine WL.y (Yl.loadN ag34 rfl (by repeat (first | exact Take1.head | apply Take1.tail)) (fitLe (by rw [Sg.len hs]; omega)) (Sg.call hs)) rfl ?_ -- t5
  refine WL.callC (xs := [.tmp 5]) (cap := []) rfl rfl en11 (by repeat (first | exact TakeL.nil | (apply TakeL.cons; · repeat (first | exact Take1.head | apply Take1.tail)))) (fun w hw => smay_any s hs w hw.left.here) rfl ?_ -- t6 hailer/sign.May
  rintro ⟨⟩ -
  rw [hm]
  refine WL.y (Yl.not rfl) rfl ?_ -- t7
  refine WL.nil ?_
  refine WC.condT rfl (by first | rfl | (simp; done) | (simp; omega)) ?_
  refine WC.seq ?_
  refine WC.region ?_
  refine WL.y (Yl.assign rfl) rfl ?_ -- t2
  refine WL.y (Yl.assign rfl) rfl ?_ -- t3
  refine WL.nil ?_
  refine WC.ret ?_
  repeat (first | (with_reducible refine peelT ?_) | (with_reducible refine peelB ?_) | (with_reducible refine peelTX ?_) | (with_reducible refine peelBX ?_) | (with_reducible refine peelBN ?_) | (with_reducible refine peelBO rfl ?_))
  exact ret2 (.inr rfl) Try.results7 rfl rfl fun w' hh => ⟨(), trivial, rfl, hh.sub (by repeat (first | exact TakeL.nil | (apply TakeL.cons; · repeat (first | exact Take1.head | apply Take1.tail))))⟩

theorem sput_ok (s : Sg) (hs : s.ok) (hm : mayS s = true) (w : World) (xs : RdS w (fpL []) (.slice s.da s.data.length s.dc) 1 s.data.length (ints .u8 s.data)) (hw : OK w (fpL []) [] w) :
    Fn Try.prog 7 [.agg s.cells.toArray] [] w (fun y : Option Addr × Nat => (sigB s).length ≤ y.2) (fun y => .tuple #[.slice y.1 (sigB s).length y.2, .int .i64 0]) (fun y => [ownR (.slice y.1 (sigB s).length y.2) 5 1 (sigB s).length (ints .u8 (sigB s))]) := by
  have hd := mayS_data hm
  have hlo : -9223372036854775808 ≤ (1056 : Int) ∧ (1056 : Int) ≤ 9223372036854775807 := by omega
  have f0 : Fit 1056 (([] : List Int), false) := .inl rfl
  have h16 := hs.il
  have e1 : pt 1056 ([], false) [s.kind] = ([s.kind], false) := pt_ok (by simp)
  have f1 : Fit 1056 ([s.kind], false) := .inr (by simp)
  have e2 : pts 1056 ([s.kind], false) [s.id] = ([s.kind] ++ s.id, false) := pt_ok (by simp [h16])
  have l2 : ([s.kind] ++ s.id).length = 17 := by simp [h16]
  have f2 : Fit 1056 ([s.kind] ++ s.id, false) := .inr (by rw [l2]; omega)
  have e3 : pts 1056 ([s.kind] ++ s.id, false) (chk s) = (sigB s, false) := by
    have := chk_total hs hd
    have hl := sigB_len hs
    have ht : total (chk s) = (sigP s).length := by rw [← chk_flat, List.length_flatten]; rfl
    have hB : (sigB s).length = 17 + (sigP s).length := by unfold sigB; rw [List.length_append, l2]
    rw [pts_all (by rw [l2]; omega), chk_flat]; rfl
  have hl := sigB_len hs
  refine enterF Try.func7 rfl Try.ntmps7 rfl hw ?_
  refine WC.seq ?_
  refine WC.region ?_
  refine WL.to (To.box (cs := s.cells) rfl rfl) rfl ?_ -- t1
  intro b1
  refine WL.y (Yl.assign rfl) rfl ?_ -- t2
  refine WL.y (Yl.assign rfl) rfl ?_ -- t3
  refine WL.nil ?_
  refine WC.seq ?_
  refine WC.seq ?_
  refine WC.region ?_
  refine WL.y (Yl.loadN ag34 rfl (by repeat (first | exact Take1.head | apply Take1.tail)) (fitLe (by rw [Sg.len hs]; omega)) (Sg.call hs)) rfl ?_ -- t5
  refine WL.callC (xs := [.tmp 5]) (cap := []) rfl rfl en11 (by repeat (first | exact TakeL.nil | (apply TakeL.cons; · repeat (first | exact Take1.head | apply Take1.tail)))) (fun w hw => smay_any s hs w hw.left.here) rfl ?_ -- t6 hailer/sign.May
  rintro ⟨⟩ -
  rw [hm]
  refine WL.y (Yl.not rfl) rfl ?_ -- t7
  refine WL.nil ?_
  refine WC.condF rfl (by first | rfl | (simp; done) | (simp; omega)) ?_
  refine WC.skip ?_
  refine WC.seq ?_
  refine WC.region ?_
  refine WL.callC (xs := [_]) (cap := []) rfl rfl en15 (by repeat (first | exact TakeL.nil | (apply TakeL.cons; · repeat (first | exact Take1.head | apply Take1.tail)))) (fun w hw => newOut_any 1056 w hw.left.here) rfl ?_ -- t8 hailer/wire.NewOut
  intro b8 _
  refine WL.y (Yl.assign rfl) rfl ?_ -- t4
  refine WL.nil ?_
  refine WC.seq ?_
  refine WC.region ?_
  refine WL.y (Yl.move rfl) rfl ?_ -- t9
  refine WL.y (Yl.field fo34_0 rfl) rfl ?_ -- t10
  refine WL.y (Yl.load on5 rfl (by repeat (first | exact Take1.head | apply Take1.tail)) Sg.c0) rfl ?_ -- t11
  refine WL.to (To.buildSlice (vs := [.int .u8 s.kind]) un22 zs5 rfl rfl (by simp [Value.cells]) (by decide) (by decide)) rfl ?_ -- t12
  intro b12
  refine WL.callC (xs := [.tmp 9, .tmp 12]) (cap := []) rfl rfl en16 (by repeat (first | exact TakeL.nil | (apply TakeL.cons; · repeat (first | exact Take1.head | apply Take1.tail)))) (fun w hw => outU8_any b8 (none, 0) 1056 [] false [s.kind] (.slice (some ⟨b12, 0, none⟩) 1 1) hlo f0 (by simp) w (hw.src (RdOf.blk (cs := [.int .u8 s.kind]) (Nat.le_refl _) (by unfold maxLen; omega) (by simp) rfl) (by repeat (first | exact Take1.head | apply Take1.tail))) hw.left.here) rfl ?_ -- t13 (*hailer/wire.Out).U8
  intro y13 _
  rw [e1]
  dsimp only
  refine WL.nil ?_
  refine WC.seq ?_
  refine WC.region ?_
  refine WL.y (Yl.move rfl) rfl ?_ -- t14
  refine WL.y (Yl.field fo34_1 rfl) rfl ?_ -- t15
  refine WL.y (Yl.sliceArr un27 sz5 (by decide) rfl) rfl ?_ -- t16
  refine WL.to (To.buildSlice (vs := [.slice (some ⟨b1, 0 + 1, none⟩) 16 16]) un71 zs22 rfl rfl (by simp [Value.cells]) (by decide) (by decide)) rfl ?_ -- t17
  intro b17
  refine WL.callC (xs := [.tmp 14, .tmp 17]) (cap := []) rfl rfl en17 (by repeat (first | exact TakeL.nil | (apply TakeL.cons; · repeat (first | exact Take1.head | apply Take1.tail)))) (fun w hw => outFixed_any b8 y13 1056 [s.kind] false [s.id] [.slice (some ⟨b1, 0 + 1, none⟩) 16 16] (.slice (some ⟨b17, 0, none⟩) 1 1) rfl hlo f1 (by simp [total, h16]) w (hw.src (RdOf.blk (cs := [.slice (some ⟨b1, 0 + 1, none⟩) 16 16]) (Nat.le_refl _) (by unfold maxLen; omega) (by simp) rfl) (by repeat (first | exact Take1.head | apply Take1.tail))) (fixed1 (by rw [h16]; exact hw.src (RdOf.blk (cs := s.cells) (Nat.le_refl _) (by unfold maxLen; omega) (by rw [Sg.len hs]; omega) (Sg.cid hs)) (by repeat (first | exact Take1.head | apply Take1.tail)))) hw.left.here) rfl ?_ -- t18 (*hailer/wire.Out).Fixed
  intro y18 _
  rw [e2]
  dsimp only
  refine WL.nil ?_
  refine WC.seq ?_
  refine WC.drawAny (Hs := [blkR b1 34 s.cells]) mixed (by kernel_rfl) ⟨_, (by repeat (first | exact TakeL.nil | (apply TakeL.cons; · repeat (first | exact Take1.head | apply Take1.tail))))⟩ ?_
  refine WD.take 0 rfl (by kernel_rfl) (by kernel_rfl) (by kernel_rfl) rfl rfl (Yl.field fo34_0 rfl) rfl ?_ -- t19
  refine WD.take 1 rfl (by kernel_rfl) (by kernel_rfl) (by kernel_rfl) rfl rfl (Yl.load on5 rfl (by repeat (first | exact Take1.head | apply Take1.tail)) Sg.c0) rfl ?_ -- t20
  refine WD.take 4 rfl (by kernel_rfl) (by kernel_rfl) (by kernel_rfl) rfl rfl (Yl.move rfl) rfl ?_ -- t23
  refine WD.take 5 rfl (by kernel_rfl) (by kernel_rfl) (by kernel_rfl) rfl rfl (Yl.loadN ag34 rfl (by repeat (first | exact Take1.head | apply Take1.tail)) (fitLe (by rw [Sg.len hs]; omega)) (Sg.call hs)) rfl ?_ -- t24
  refine WD.one 2 (by kernel_rfl) ?_
  refine WO.callC (xs := [.tmp 20]) (cap := []) rfl .no rfl rfl en18 (by repeat (first | exact TakeL.nil | (apply TakeL.cons; · repeat (first | exact Take1.head | apply Take1.tail)))) (fun w hw => of_sign s.kind w hw.left.here) rfl (fun _ => ⟨_, (by repeat (first | exact TakeL.nil | (apply TakeL.cons; · repeat (first | exact Take1.head | apply Take1.tail))))⟩) ?_ -- t21 hailer/sign.of
  rintro ⟨⟩ -
  refine WD.take 3 rfl (by kernel_rfl) (by kernel_rfl) (by kernel_rfl) rfl rfl (Yl.fieldG rfl (v := .func (.func (putOf s.kind)) #[] #[]) (fun _ => by kernel_rfl)) rfl ?_ -- t22
  refine WD.one 6 (by kernel_rfl) ?_
  refine WO.callC (xs := [.tmp 23, .tmp 24]) (cap := []) rfl .no rfl rfl (enPut s.kind) (by repeat (first | exact TakeL.nil | (apply TakeL.cons; · repeat (first | exact Take1.head | apply Take1.tail)))) (fun w hw => putOf_any s hs hd b8 y18 1056 ([s.kind] ++ s.id) false hlo f2 (by rw [l2]; omega) w (hw.srcS xs) hw.left.here) rfl (fun _ => ⟨_, (by repeat (first | exact TakeL.nil | (apply TakeL.cons; · repeat (first | exact Take1.head | apply Take1.tail))))⟩) ?_ -- t25 
  intro y25 _
  rw [e3]
  dsimp only
  refine WD.done (by kernel_rfl) ?_
  refine WC.seq ?_
  refine WC.region ?_
  refine WL.y (Yl.move rfl) rfl ?_ -- t26
  refine WL.callC (xs := [.tmp 26]) (cap := []) rfl rfl en19 (by repeat (first | exact TakeL.nil | (apply TakeL.cons; · repeat (first | exact Take1.head | apply Take1.tail)))) (fun w hw => outBytes_ok b8 y25 1056 (sigB s) (by omega) (by omega) w hw.left.here) rfl ?_ -- t27 (*hailer/wire.Out).Bytes
  rintro ⟨a27, c27⟩ hc27
  refine WL.y (Yl.extract rfl rfl) rfl ?_ -- t28
  refine WL.y (Yl.extract rfl rfl) rfl ?_ -- t29
  refine WL.y (Yl.assign rfl) rfl ?_ -- t2
  refine WL.y (Yl.assign rfl) rfl ?_ -- t3
  refine WL.nil ?_
  refine WC.ret ?_
  repeat (first | (with_reducible refine peelT ?_) | (with_reducible refine peelB ?_) | (with_reducible refine peelTX ?_) | (with_reducible refine peelBX ?_) | (with_reducible refine peelBN ?_) | (with_reducible refine peelBO rfl ?_))
  exact ret2 (.inr rfl) Try.results7 rfl rfl fun w' hh => ⟨(a27, c27), hc27, rfl, hh.sub (by repeat (first | exact TakeL.nil | (apply TakeL.cons; · repeat (first | exact Take1.head | apply Take1.tail))))⟩

theorem sput_any (s : Sg) (hs : s.ok) (w : World) (xs : RdS w (fpL []) (.slice s.da s.data.length s.dc) 1 s.data.length (ints .u8 s.data)) (hw : OK w (fpL []) [] w) :
    Fn Try.prog 7 [.agg s.cells.toArray] [] w (fun y : Option Addr × Nat => (putS s).length ≤ y.2) (fun y => .tuple #[.slice y.1 (putS s).length y.2, .int .i64 (errS s)]) (fun y => [ownR (.slice y.1 (putS s).length y.2) 5 1 (putS s).length (ints .u8 (putS s))]) := by
  unfold putS errS
  cases hm : mayS s with
  | false =>
    refine (sput_no s hs hm w hw).mono ?_
    rintro e w' ⟨_, _, h1, h2⟩
    exact ⟨(none, 0), Nat.le_refl _, h1, h2.addNil _ _⟩
  | true => exact sput_ok s hs hm w xs hw

/-- What is taken, as the program takes it. -/
def tkT (bs : List Int) : Sg × List Int × Bool :=
  tkS (val (tkR 1 bs false)) { Sg.zero with kind := val (tkR 1 bs false), id := over (tkR 16 (tkB 1 bs false) (tkW 1 bs false)) Sg.zero.id } (tkB 16 (tkB 1 bs false) (tkW 1 bs false)) (tkW 16 (tkB 1 bs false) (tkW 1 bs false))
def okT (bs : List Int) : Bool := decide (endE (tkT bs).2.1 (tkT bs).2.2 = 0) && mayS (tkT bs).1

theorem val4R {B : List Int} (h : Bytes B) (W : Bool) : 0 ≤ val (tkR 4 B W) ∧ val (tkR 4 B W) < 4294967296 := by
  have := val_range (h.tkR 4 W)
  have h2 := pow4 (tkR_len 4 B W)
  omega
theorem tkS_ok {k : Int} {s : Sg} {B : List Int} {W : Bool} (hs : s.ok) (hB : Bytes B) : (tkS k s B W).1.ok ∧ (tkS k s B W).1.da = s.da ∧ (tkS k s B W).1.dc = s.dc := by
  have v8 : ∀ {B : List Int} {W : Bool}, Bytes B → 0 ≤ val (tkR 1 B W) ∧ val (tkR 1 B W) < 256 := fun h => by have := val1 h ‹Bool›; omega
  have b1 := hB.tkB 1 W
  have b2 := b1.tkB 1 (tkW 1 B W)
  have b3 := b2.tkB 1 (tkW 1 (tkB 1 B W) (tkW 1 B W))
  unfold tkS
  split
  · exact ⟨⟨hs.kind, hs.il, hs.ib, v8 hB, v8 b1, v8 b2, over_len (tkR_len 32 _ _) hs.kl, over_bytes (b3.tkR 32 _) hs.kb, hs.n, hs.db, hs.rs⟩, rfl, rfl⟩
  split
  · exact ⟨⟨hs.kind, hs.il, hs.ib, hs.ca, hs.cd, hs.ce, over_len (tkR_len 32 _ _) hs.kl, over_bytes (hB.tkR 32 _) hs.kb, hs.n, hs.db, hs.rs⟩, rfl, rfl⟩
  split
  · exact ⟨⟨hs.kind, hs.il, hs.ib, hs.ca, hs.cd, hs.ce, hs.kl, hs.kb, val4R hB W, ((hB.tkB 4 W).tkB 2 _).tkR _ _, hs.rs⟩, rfl, rfl⟩
  split
  · exact ⟨⟨hs.kind, hs.il, hs.ib, hs.ca, hs.cd, hs.ce, hs.kl, hs.kb, hs.n, hs.db, v8 hB⟩, rfl, rfl⟩
  · exact ⟨hs, rfl, rfl⟩

set_option maxRecDepth 100000 in
theorem stake_any (bs : List Int) (v : Value) (hB : Bytes bs) (hsz : bs.length ≤ 140737488355328) (w : World) (hx : RdS w (fpL []) v 1 bs.length (ints .u8 bs)) (hw : OK w (fpL []) [] w) :
    Fn Try.prog 9 [v] [] w (fun y : Res × Option Addr × Nat => RdOf y.1 (.slice y.2.1 (if okT bs then (tkT bs).1 else Sg.zero).data.length y.2.2) 1 (if okT bs then (tkT bs).1 else Sg.zero).data.length (ints .u8 (if okT bs then (tkT bs).1 else Sg.zero).data))
      (fun y => .tuple #[.agg ({ (if okT bs then (tkT bs).1 else Sg.zero) with da := y.2.1, dc := y.2.2 } : Sg).cells.toArray, .int .i64 (errT (okT bs))]) (fun y => [y.1]) := by
  obtain ⟨st, hst⟩ : ∃ st, tkT bs = st := ⟨_, rfl⟩
  have hok : okT bs = (decide (endE st.2.1 st.2.2 = 0) && mayS st.1) := by rw [← hst]; rfl
  have hst0 := hst
  unfold tkT at hst
  obtain ⟨K, hK⟩ : ∃ B', val (tkR 1 bs false) = B' := ⟨_, rfl⟩
  obtain ⟨B1, hB1⟩ : ∃ B', tkB 1 bs false = B' := ⟨_, rfl⟩
  obtain ⟨W1, hW1⟩ : ∃ B', tkW 1 bs false = B' := ⟨_, rfl⟩
  rw [hK, hB1, hW1] at hst
  obtain ⟨T2, hT2⟩ : ∃ B', tkR 16 B1 W1 = B' := ⟨_, rfl⟩
  obtain ⟨B2, hB2⟩ : ∃ B', tkB 16 B1 W1 = B' := ⟨_, rfl⟩
  obtain ⟨W2, hW2⟩ : ∃ B', tkW 16 B1 W1 = B' := ⟨_, rfl⟩
  rw [hT2, hB2, hW2] at hst
  have k1 : Bytes B1 := hB1 ▸ hB.tkB 1 false
  have k2 : Bytes B2 := hB2 ▸ k1.tkB 16 W1
  have hT2l : T2.length ≤ 16 := hT2 ▸ tkR_len 16 B1 W1
  have hKr : 0 ≤ K ∧ K < 256 := by have := val1 hB false; rw [← hK]; omega
  have z : 0 ≤ (0 : Int) ∧ (0 : Int) < 256 := by decide
  have z4 : 0 ≤ (0 : Int) ∧ (0 : Int) < 4294967296 := by decide
  obtain ⟨I, hI⟩ : ∃ I, over T2 Sg.zero.id = I := ⟨_, rfl⟩
  have hIl : I.length = 16 := hI ▸ over_len hT2l rfl
  have hs0 : (Sg.mk K I 0 0 0 zero32 0 none 0 [] 0).ok := ⟨hKr, hIl, hI ▸ over_bytes (hT2 ▸ k1.tkR 16 W1) (zrep 16), z, z, z, zero32_ok.1, zero32_ok.2, z4, (fun _ h => by cases h), z⟩
  replace hst : tkS K (Sg.mk K I 0 0 0 zero32 0 none 0 [] 0) B2 W2 = st := by rw [← hst, ← hI]; rfl
  obtain ⟨hok1, hda, hdc⟩ := tkS_ok (k := K) (W := W2) hs0 k2
  rw [hst] at hok1 hda hdc
  refine enterF Try.func9 rfl Try.ntmps9 rfl hw ?_
  refine WC.seq ?_
  refine WC.region ?_
  refine WL.to (To.alloc (cs := Sg.zero.cells) zr34 rfl) rfl ?_ -- t2
  intro b2
  refine WL.y (Yl.assign rfl) rfl ?_ -- t3
  refine WL.nil ?_
  refine WC.seq ?_
  refine WC.region ?_
  refine WL.to (To.alloc (cs := Sg.zero.cells) zr34 rfl) rfl ?_ -- t4
  intro b4
  refine WL.nil ?_
  refine WC.seq ?_
  refine WC.region ?_
  refine WL.y (Yl.move rfl) rfl ?_ -- t6
  refine WL.callC (xs := [.tmp 6]) (cap := []) rfl rfl en20 (by repeat (first | exact TakeL.nil | (apply TakeL.cons; · repeat (first | exact Take1.head | apply Take1.tail)))) (fun w hw => newIn_any v bs hsz w (hw.srcS hx) hw.left.here) rfl ?_ -- t7 hailer/wire.NewIn
  rintro ⟨b7, a7, c7⟩ hc7
  dsimp only at hc7 ⊢
  obtain ⟨r, hr⟩ : ∃ r, r = ownR (.slice a7 bs.length c7) 5 1 bs.length (ints .u8 bs) := ⟨_, rfl⟩
  have r0 : RdOf r (.slice a7 bs.length c7) 1 bs.length (ints .u8 bs) := by rw [hr]; exact RdOf.own
  rw [← hr]
  refine WL.y (Yl.assign rfl) rfl ?_ -- t5
  refine WL.nil ?_
  refine WC.seq ?_
  refine WC.region ?_
  refine WL.y (Yl.move rfl) rfl ?_ -- t8
  refine WL.callC (xs := [.tmp 8]) (cap := []) rfl rfl en21 (by repeat (first | exact TakeL.nil | (apply TakeL.cons; · repeat (first | exact Take1.head | apply Take1.tail)))) (fun w hw => inU8_any b7 a7 c7 bs false r r0 hc7 hB w hw.left.here) rfl ?_ -- t9 (*hailer/wire.In).U8
  rintro ⟨a1, c1⟩ ⟨r1, hc1⟩
  dsimp only at r1 hc1 ⊢
  rw [hB1] at r1 hc1
  rw [hK, hB1, hW1]
  refine WL.y (Yl.field fo34_0 rfl) rfl ?_ -- t10
  refine WL.sto (Sto.one sz5 rfl rfl (by repeat (first | exact Take1.head | apply Take1.tail)) rfl (by rfl) (Sg.s0 (s := Sg.zero) K)) (fun _ h => nomatch h) ?_
  refine WL.nil ?_
  refine WC.midE (α := Option Addr × Nat) (fun _ => []) (fun z => [inR b7 (.slice z.1 B2.length z.2) W2, r, blkR b4 34 (Sg.mk K I 0 0 0 zero32 0 none 0 [] 0).cells, blkR b2 34 Sg.zero.cells]) (fun z => RdOf r (.slice z.1 B2.length z.2) 1 B2.length (ints .u8 B2) ∧ B2.length ≤ z.2) ?_ ?_
  · refine WC.drawAny (Hs := []) mixed (by kernel_rfl) ⟨_, (by repeat (first | exact TakeL.nil | (apply TakeL.cons; · repeat (first | exact Take1.head | apply Take1.tail))))⟩ ?_
    refine WD.take 0 rfl (by kernel_rfl) (by kernel_rfl) (by kernel_rfl) rfl rfl (Yl.field fo34_1 rfl) rfl ?_ -- t11
    refine WD.take 1 rfl (by kernel_rfl) (by kernel_rfl) (by kernel_rfl) rfl rfl (Yl.sliceArr un27 sz5 (by decide) rfl) rfl ?_ -- t12
    refine WD.take 2 rfl (by kernel_rfl) (by kernel_rfl) (by kernel_rfl) rfl rfl (Yl.move rfl) rfl ?_ -- t13
    refine WD.one 3 (by kernel_rfl) ?_
    refine WO.callC (xs := [.tmp 13, _]) (cap := []) rfl .no rfl rfl en22 (by repeat (first | exact TakeL.nil | (apply TakeL.cons; · repeat (first | exact Take1.head | apply Take1.tail)))) (fun w hw => inFixed_any b7 a1 c1 16 B1 W1 r r1 hc1 w hw.left.here) rfl (fun _ => ⟨_, (by repeat (first | exact TakeL.nil | (apply TakeL.cons; · repeat (first | exact Take1.head | apply Take1.tail))))⟩) ?_ -- t14 (*hailer/wire.In).Fixed
    rintro ⟨⟨a14, c14⟩, z⟩ ⟨q1, q2, q3, q4⟩
    dsimp only at q1 q2 q3 q4 ⊢
    rw [hT2] at q1 q2
    rw [hB2] at q3 q4
    rw [hT2, hB2, hW2]
    refine WD.one 4 (by kernel_rfl) ?_
    refine WO.to rfl rfl .no (To.copy un22 sz5 rfl rfl (by repeat (first | exact Take1.head | apply Take1.tail)) (Reads.of q1 (by repeat (first | exact Take1.head | apply Take1.tail))) (ints_one _ _) (by rfl) (Sg.oid (s := { Sg.zero with kind := K }) rfl hT2l)) rfl (fun _ => ⟨_, (by repeat (first | exact TakeL.nil | (apply TakeL.cons; · repeat (first | exact Take1.head | apply Take1.tail))))⟩) ?_
    rintro ⟨⟩
    refine WD.done (by kernel_rfl) ?_
    exact ⟨rfl, z, ⟨q3, q4⟩, (by repeat (first | exact Sub.nil | refine Sub.cons rfl ?_)), (by repeat (first | exact Sub.nil | refine Sub.cons rfl ?_)), _, by rw [← hI]; exact (by repeat (first | exact TakeL.nil | (apply TakeL.cons; · repeat (first | exact Take1.head | apply Take1.tail))))⟩
  · rintro ⟨a2, c2⟩ ⟨r2, hc2⟩
    dsimp only at r2 hc2 ⊢
    refine WC.seq ?_
    refine WC.region ?_
    refine WL.y (Yl.field fo34_0 rfl) rfl ?_ -- t16
    refine WL.y (Yl.load on5 rfl (by repeat (first | exact Take1.head | apply Take1.tail)) Sg.c0) rfl ?_ -- t17
    refine WL.callC (xs := [.tmp 17]) (cap := []) rfl rfl en18 (by repeat (first | exact TakeL.nil | (apply TakeL.cons; · repeat (first | exact Take1.head | apply Take1.tail)))) (fun w hw => of_sign K w hw.left.here) rfl ?_ -- t18 hailer/sign.of
    rintro ⟨⟩ -
    refine WL.y (Yl.fieldG rfl (v := .func (.func (takeOf K)) #[] #[]) (fun _ => by kernel_rfl)) rfl ?_ -- t19
    refine WL.y (Yl.move rfl) rfl ?_ -- t20
    refine WL.callC (xs := [.tmp 20, .tmp 4]) (cap := []) rfl rfl (enTake K) (by repeat (first | exact TakeL.nil | (apply TakeL.cons; · repeat (first | exact Take1.head | apply Take1.tail)))) (fun w hw => takeOf_any _ hs0 b7 b4 a2 c2 B2 W2 r r2 hc2 k2 ⟨fun _ _ => Rd.nil _ _⟩ w hw.left.here K) rfl ?_ -- t21 
    rintro ⟨⟨a3, c3⟩, a5, c5⟩ ⟨q1, q2, q3⟩
    rw [hst] at q1 q2 q3 ⊢
    dsimp only at q1 q2 q3 ⊢
    have hok2 : ({ st.1 with da := a5, dc := c5 } : Sg).ok := ⟨hok1.kind, hok1.il, hok1.ib, hok1.ca, hok1.cd, hok1.ce, hok1.kl, hok1.kb, hok1.n, hok1.db, hok1.rs⟩
    refine WL.nil ?_
    refine WC.seq ?_
    refine WC.midK [(29, .bool (!(okT bs)))] [r, blkR b4 34 ({ st.1 with da := a5, dc := c5 } : Sg).cells, blkR b2 34 Sg.zero.cells] ?_ ?_
    · refine WC.region ?_
      refine WL.y (Yl.move rfl) rfl ?_ -- t22
      refine WL.callC (xs := [.tmp 22]) (cap := []) rfl rfl en23 (by repeat (first | exact TakeL.nil | (apply TakeL.cons; · repeat (first | exact Take1.head | apply Take1.tail)))) (fun w hw => inEnd_any b7 a3 c3 st.2.1 st.2.2 w hw.left.here) rfl ?_ -- t23 (*hailer/wire.In).End
      rintro ⟨⟩ -
      refine WL.y (Yl.neq rfl rfl) rfl ?_ -- t24
      refine WL.y (Yl.move rfl) rfl ?_ -- t25
      refine WL.both (t := 25) rfl (fun g25 => ?_) (fun g25 => ?_)
      · refine WL.off rfl rfl rfl rfl ?_ -- t26
        refine WL.off rfl rfl rfl rfl ?_ -- t27
        refine WL.off rfl rfl rfl rfl ?_ -- t28
        refine WL.y (Yl.pickT rfl rfl) rfl ?_ -- t29
        refine WL.say (t := 29) (v' := .bool (!(okT bs))) rfl (by (refine congrArg Value.bool ?_; rw [hok]; have em : mayS ({ st.1 with da := a5, dc := c5 } : Sg) = mayS st.1 := rfl; first | (simp only [em]; simp at g25; simp [g25]) | (simp at g25; simp [g25]))) ?_
        refine WL.nil ?_
        exact ⟨rfl, (by repeat (first | exact Sub.nil | refine Sub.cons rfl ?_)), (by repeat (first | exact Sub.nil | refine Sub.cons rfl ?_)), _, (by repeat (first | exact TakeL.nil | (apply TakeL.cons; · repeat (first | exact Take1.head | apply Take1.tail))))⟩
      · refine WL.on rfl rfl ?_
        refine WL.y (Yl.loadN ag34 rfl (by repeat (first | exact Take1.head | apply Take1.tail)) (fitLe (by rw [Sg.len hok2]; omega)) (Sg.call hok2)) rfl ?_ -- t26
        refine WL.on rfl rfl ?_
        refine WL.callC (xs := [.tmp 26]) (cap := []) rfl rfl en11 (by repeat (first | exact TakeL.nil | (apply TakeL.cons; · repeat (first | exact Take1.head | apply Take1.tail)))) (fun w hw => smay_any _ hok2 w hw.left.here) rfl ?_ -- t27 hailer/sign.May
        rintro ⟨⟩ -
        refine WL.on rfl rfl ?_
        refine WL.y (Yl.not rfl) rfl ?_ -- t28
        refine WL.y (Yl.pickF rfl rfl) rfl ?_ -- t29
        refine WL.say (t := 29) (v' := .bool (!(okT bs))) rfl (by (refine congrArg Value.bool ?_; rw [hok]; have em : mayS ({ st.1 with da := a5, dc := c5 } : Sg) = mayS st.1 := rfl; first | (simp only [em]; simp at g25; simp [g25]) | (simp at g25; simp [g25]))) ?_
        refine WL.nil ?_
        exact ⟨rfl, (by repeat (first | exact Sub.nil | refine Sub.cons rfl ?_)), (by repeat (first | exact Sub.nil | refine Sub.cons rfl ?_)), _, (by repeat (first | exact TakeL.nil | (apply TakeL.cons; · repeat (first | exact Take1.head | apply Take1.tail))))⟩
    · refine WC.cond rfl (fun g29 => ?_) (fun g29 => ?_)
      · refine WC.seq ?_
        refine WC.region ?_
        refine WL.y (Yl.build rfl (cs := Sg.zero.cells) (fun _ => by kernel_rfl)) rfl ?_ -- t30
        refine WL.sto (Sto.agg sz34 rfl rfl (by repeat (first | exact Take1.head | apply Take1.tail)) (Sg.ones _) rfl (by rfl) (Sg.all rfl Sg.zero.cells)) (fun _ h => nomatch h) ?_ -- st 2
        refine WL.y (Yl.assign rfl) rfl ?_ -- t3
        refine WL.nil ?_
        refine WC.ret ?_
        repeat (first | (with_reducible refine peelT ?_) | (with_reducible refine peelB ?_) | (with_reducible refine peelTX ?_) | (with_reducible refine peelBX ?_) | (with_reducible refine peelBN ?_) | (with_reducible refine peelBO rfl ?_))
        have e := notT g29
        exact retC2 (.inr rfl) Try.results9 ag34 rfl rfl (by repeat (first | exact Take1.head | apply Take1.tail)) rfl fun w' hh => ⟨(r, none, 0), by rw [e]; exact ⟨fun _ _ => Rd.nil _ _⟩, by rw [e]; rfl, hh.sub (by repeat (first | exact TakeL.nil | (apply TakeL.cons; · repeat (first | exact Take1.head | apply Take1.tail))))⟩
      · refine WC.skip ?_
        refine WC.seq ?_
        refine WC.region ?_
        refine WL.y (Yl.loadN ag34 rfl (by repeat (first | exact Take1.head | apply Take1.tail)) (fitLe (by rw [Sg.len hok2]; omega)) (Sg.call hok2)) rfl ?_ -- t31
        refine WL.sto (Sto.agg sz34 rfl rfl (by repeat (first | exact Take1.head | apply Take1.tail)) (Sg.ones _) (Sg.len hok2) (by rfl) (Sg.all rfl _)) (fun _ h => nomatch h) ?_ -- st 3
        refine WL.y (Yl.assign rfl) rfl ?_ -- t3
        refine WL.nil ?_
        refine WC.ret ?_
        repeat (first | (with_reducible refine peelT ?_) | (with_reducible refine peelB ?_) | (with_reducible refine peelTX ?_) | (with_reducible refine peelBX ?_) | (with_reducible refine peelBN ?_) | (with_reducible refine peelBO rfl ?_))
        have e := notF g29
        exact retC2 (.inr rfl) Try.results9 ag34 rfl rfl (by repeat (first | exact Take1.head | apply Take1.tail)) (Sg.len hok2) fun w' hh => ⟨(r, a5, c5), by rw [e, hst0]; exact q3, by rw [e, hst0]; rfl, hh.sub (by repeat (first | exact TakeL.nil | (apply TakeL.cons; · repeat (first | exact Take1.head | apply Take1.tail))))⟩
end Go.Proofs.Ytnmeoleahcnnkaa
