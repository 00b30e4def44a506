/- ReportSums: the walk. -/
import Derived.Test.YtbgimajbehodnaaGreatDoorRepSb
import Derived.Test.YtbgimajbehodnaaGreatDoorRepYB
import Derived.Test.YtbgimajbehodnaaGreatDoorLibZ
import Derived.Test.YtbgimajbehodnaaGreatDoorLibN
import Derived.Test.YtbgimajbehodnaaGreatDoorRows
import Derived.Lib.LaidTab
import Derived.LaidSub
import Derived.Shelf.Vars
namespace Go.Proofs.YtbgimajbehodnaaGreatDoor
open Go Go.RowKit
/-- How many keys are less. -/
def cntK (K : List Int) (q : Int) : Nat := (K.filter fun k => decide (k < q)).length
theorem cntK_mem : ∀ {K : List Int} {q : Int}, K.Pairwise (· < ·) → q ∈ K → K[cntK K q]? = some q ∧ cntK K (q + 1) = cntK K q + 1
  | [], _, _, h => by cases h
  | k :: K, q, hp, h => by
    rw [List.pairwise_cons] at hp
    have h0 : ∀ r, r ≤ k + 1 → K.filter (fun x => decide (x < r)) = [] := fun r hr => List.filter_eq_nil_iff.2 fun x hx => by
      have := hp.1 x hx
      simp
      omega
    by_cases e : q = k
    · subst e
      have e1 : cntK (q :: K) q = 0 := by unfold cntK; rw [List.filter_cons, if_neg (by simp), h0 q (by omega)]; rfl
      have e2 : cntK (q :: K) (q + 1) = 1 := by unfold cntK; rw [List.filter_cons, if_pos (by simp; omega), h0 (q + 1) (by omega)]; rfl
      rw [e1, e2]
      exact ⟨rfl, rfl⟩
    · have hq : q ∈ K := by rcases List.mem_cons.1 h with h | h; exact absurd h e; exact h
      have hk := hp.1 q hq
      obtain ⟨i1, i2⟩ := cntK_mem hp.2 hq
      have e1 : cntK (k :: K) q = cntK K q + 1 := by unfold cntK; rw [List.filter_cons, if_pos (by simpa using hk), List.length_cons]
      have e2 : cntK (k :: K) (q + 1) = cntK K (q + 1) + 1 := by unfold cntK; rw [List.filter_cons, if_pos (by simp; omega), List.length_cons]
      rw [e1, e2, i2]
      exact ⟨by rw [List.getElem?_cons_succ]; exact i1, rfl⟩
theorem cntK_not {K : List Int} {q : Int} (h : q ∉ K) : cntK K (q + 1) = cntK K q := by
  unfold cntK
  congr 1
  refine List.filter_congr fun x hx => ?_
  have : x ≠ q := fun e => h (e ▸ hx)
  rw [Bool.eq_iff_iff]
  simp
  omega
theorem cntK_zero {K : List Int} (h : ∀ k ∈ K, 0 ≤ k) : cntK K 0 = 0 := by
  unfold cntK
  rw [List.filter_eq_nil_iff.2 fun x hx => by have := h x hx; simp; omega]
  rfl
theorem cntK_all {K : List Int} {q : Int} (h : ∀ k ∈ K, k < q) : cntK K q = K.length := by
  unfold cntK
  rw [List.filter_eq_self.2 fun x hx => by simpa using h x hx]
theorem selS_nil {key : Rc → Int} {k : Int} {xs : List Rc} : selS key k xs = [] ↔ k ∉ byK key xs := by
  rw [byK_mem]
  unfold selS
  rw [List.filter_eq_nil_iff]
  constructor
  · rintro h ⟨x, hx, e⟩
    exact h x hx (by simpa using e)
  · intro h x hx e
    exact h ⟨x, hx, by simpa using e⟩
theorem flRSum : Flat Tryz.prog 72 smLeaf := Flat.mk' 5 (by decide) (by kernel_rfl) (by kernel_rfl)
theorem topZ_any (gf : Nat) (lb : List Value) (own : Nat → Prop) (xs : List Rc) (ga : Nat) (n : Int) (hn : n < 1) (w : World) (hw : OK w (fpL [itR Tryz.prog gf lb own (ysR xs)]) [itR Tryz.prog gf lb own (ysR xs)] w) :
    Fn Tryz.prog 30 [.func (.func gf) #[] lb.toArray, .int .i64 n, .func (.func ga) #[] #[]] [itR Tryz.prog gf lb own (ysR xs)] w (fun _ : Unit => True) (fun _ => .slice none 0 0) (fun _ => []) := by
  refine enterM Tryz.func30 rfl Tryz.ntmps30 rfl hw ?_
  refine WC.seq ?_
  refine WC.region ?_
  refine WL.to (To.box (cs := [.int .i64 n]) rfl rfl) rfl ?_
  intro b4
  refine WL.to (To.box (cs := [.func (.func ga) #[] #[]]) rfl rfl) rfl ?_
  intro b5
  refine WL.y (Yl.assign rfl) rfl ?_
  refine WL.nil ?_
  refine WC.seq ?_
  refine WC.seq ?_
  refine WC.region ?_
  refine WL.y (Yl.load on79 rfl (by repeat constructor) (by rfl)) rfl ?_
  refine WL.y (Yl.eqNilF (by kernel_rfl) rfl rfl) rfl ?_
  refine WL.know (t := 11) (b' := false) rfl (by first | rfl | (simp; done) | (simp; omega)) ?_
  refine WL.y (Yl.move rfl) rfl ?_
  refine WL.on rfl rfl ?_
  refine WL.y (Yl.load on3 rfl (by repeat constructor) (by rfl)) rfl ?_
  refine WL.on rfl rfl ?_
  refine WL.y (Yl.lss rfl rfl) rfl ?_
  refine WL.know (t := 14) (b' := true) rfl (by simp; omega) ?_
  refine WL.y (Yl.pickF rfl rfl) rfl ?_
  refine WL.nil ?_
  refine WC.condT rfl (by first | rfl | (simp; done) | (simp; omega)) ?_
  refine WC.seq ?_
  refine WC.region ?_
  refine WL.y (Yl.assign rfl) rfl ?_
  refine WL.nil ?_
  refine WC.ret ?_
  repeat (with_reducible (first | refine peelT ?_ | refine peelB ?_ | refine peelTX ?_ | refine peelBX ?_ | refine peelBN ?_ | refine peelBO rfl ?_))
  refine retM.of .nil ?_
  exact ret1 (.inr rfl) Tryz.results30 rfl fun w' h => ⟨(), trivial, rfl, h.sub (by repeat' constructor)⟩
/-- The longest ones, whatever number is asked for. -/
theorem topI_any (gf : Nat) (lb : List Value) (own : Nat → Prop) (xs : List Rc) (hG : ROk xs) (hl : xs.length ≤ 1000000) (eg : ∀ args w, (callFunc gf args).run Tryz.prog w = .ok (.enter gf args) w) (n : Int) (w : World) (hw : OK w (fpL [itR Tryz.prog gf lb own (ysR xs)]) [itR Tryz.prog gf lb own (ysR xs)] w) :
    Fn Tryz.prog 30 [.func (.func gf) #[] lb.toArray, .int .i64 n, .func (.func 31) #[] #[]] [itR Tryz.prog gf lb own (ysR xs)] w (fun _ : Option Addr × Nat => True) (fun y => .slice y.1 (topS tkF n.toNat xs).length y.2) (fun y => [ownR (.slice y.1 (topS tkF n.toNat xs).length y.2) 45 22 (topS tkF n.toNat xs).length (vcs rcV (topS tkF n.toNat xs))]) := by
  rcases Int.lt_or_le n 1 with hn | hn
  · refine Calls.mono (topZ_any gf lb own xs 31 n hn w hw) ?_
    rintro e w' ⟨_, _, he, h⟩
    have h0 : topS tkF n.toNat xs = [] := by
      rw [topS_eq, show n.toNat = 0 by omega, List.take_zero]
    refine ⟨(none, 0), trivial, ?_, ?_⟩
    · rw [h0]; exact he
    · rw [h0]; exact h.addNil 45 22
  · have := top_any gf lb own xs hG hl eg 31 tkF longer_any en31 n.toNat (by omega) w hw
    rwa [show ((n.toNat : Nat) : Int) = n by omega] at this
theorem peerS_ky (w : World) : KyP Tryz.prog 33 [] (fun _ => False) .u8 (fun r => r.peer) w := by
  intro w' _ x hx
  have hw : OK w' (fpL []) [] w' := ok_same
  refine enterF Tryz.func33 rfl Tryz.ntmps33 rfl hw ?_
  refine WC.seq ?_
  refine WC.region ?_
  refine WL.to (To.box (cs := x.cells) rfl rfl) rfl ?_
  intro b1
  refine WL.y (Yl.assign rfl) rfl ?_
  refine WL.nil ?_
  refine WC.seq ?_
  refine WC.region ?_
  refine WL.y (Yl.field fo45_1 rfl) rfl ?_
  refine WL.y (Yl.load on5 rfl (by repeat constructor) (Rc.c16 hx.len)) rfl ?_
  refine WL.y (Yl.assign rfl) rfl ?_
  refine WL.nil ?_
  refine WC.ret ?_
  repeat (with_reducible (first | refine peelT ?_ | refine peelB ?_ | refine peelTX ?_ | refine peelBX ?_ | refine peelBN ?_ | refine peelBO rfl ?_))
  exact ret1 (.inr rfl) Tryz.results33 rfl fun w' h => ⟨(), trivial, rfl, h.sub (by repeat' constructor)⟩
set_option maxRecDepth 100000 in
set_option maxHeartbeats 1600000 in
theorem sumsLaw_any (v : Value) (xs : List Rc) (hG : ROk xs) (fr tt n left : Int) (w : World) (hw : OK w (fpL [rdR v 22 xs.length (vcs rcV xs), glR]) [rdR v 22 xs.length (vcs rcV xs), glR] w) :
    Fn Tryz.prog 6 [v, .int .u64 fr, .int .u64 tt, .int .i64 n, .int .i64 left] [rdR v 22 xs.length (vcs rcV xs), glR] w (fun _ : Unit => True) (fun _ => .bool true) (fun _ => []) := by
  obtain ⟨al, cl, rfl, hcl, hml⟩ := (hw.get .head : Rd _ _ _ _ _).form
  refine enterF Tryz.func6 rfl Tryz.ntmps6 rfl hw ?_
  refine WC.seq ?_
  refine WC.region ?_
  refine WL.y (Yl.assign rfl) rfl ?_
  refine WL.nil ?_
  refine WC.seq ?_
  refine WC.seq ?_
  refine WC.region ?_
  refine WL.callC (xs := []) (cap := []) rfl rfl en8 (by repeat' constructor) (fun w hw => known_any w hw.left.here) rfl ?_
  rintro ⟨⟩ -
  try dsimp only [List.cons_append, List.nil_append]
  refine WL.y (Yl.not rfl) rfl ?_
  refine WL.know (t := 17) (b' := false) rfl (by first | rfl | (simp; done) | (simp; omega)) ?_
  refine WL.nil ?_
  refine WC.condF rfl (by first | rfl | (simp; done) | (simp; omega)) ?_
  refine WC.skip ?_
  refine WC.seq ?_
  refine WC.seq ?_
  refine WC.region ?_
  refine WL.y (Yl.move rfl) rfl ?_
  refine WL.y (Yl.len un33 rfl) rfl ?_
  refine WL.y (Yl.gtr rfl rfl) rfl ?_
  refine WL.nil ?_
  refine WC.condD rfl (fun g20 => ?_) (fun g20 => ?_)
  · refine WC.seq ?_
    refine WC.region ?_
    refine WL.y (Yl.assign rfl) rfl ?_
    refine WL.nil ?_
    refine WC.ret ?_
    repeat (with_reducible (first | refine peelT ?_ | refine peelB ?_ | refine peelTX ?_ | refine peelBX ?_ | refine peelBN ?_ | refine peelBO rfl ?_))
    exact ret1 (.inr rfl) Tryz.results6 rfl fun w' h => ⟨(), trivial, rfl, h.sub (by repeat' constructor)⟩
  · refine WC.skip ?_
    refine WC.seq ?_
    refine WC.seq ?_
    have hl300 : xs.length ≤ 300 := by omega
    have hso := sumS_ok hG
    refine WC.region ?_
    refine WL.y (Yl.move rfl) rfl ?_
    refine WL.view (fun w h => h.dup (r := rdR (.slice al xs.length cl) 22 xs.length (vcs rcV xs)) (by repeat constructor) (fun _ h => h)) ?_
    refine WL.callC (xs := [.tmp 21]) (cap := []) rfl rfl en14 (by repeat' constructor) (fun w hw => val_any (.slice al xs.length cl) xs hG (by omega) w hw.left.here) rfl ?_
    rintro ⟨v1, o1⟩ -
    try dsimp only
    refine WL.callC (xs := [.tmp 22]) (cap := []) rfl rfl en13 (by repeat' constructor) (fun w hw => ofN_any 48 [.pointer (some ⟨v1, 0, none⟩)] o1 xs hG en48 w hw.left.here) rfl ?_
    rintro ⟨⟩ -
    refine WL.y (Yl.move rfl) rfl ?_
    refine WL.callC (xs := [.tmp 24]) (cap := []) rfl rfl en25 (by repeat' constructor) (fun w hw => refOf_any (.slice al xs.length cl) xs hG (by omega) w (hw.src (A := []) (r := rdR (.slice al xs.length cl) 22 xs.length (vcs rcV xs)) RdOf.rd' (by repeat constructor)) hw.left.here) rfl ?_
    rintro ⟨⟩ -
    refine WL.y (Yl.neA (xs := (sumS xs).cells) (ys := (sumS xs).cells) flRSum rfl rfl hso.fits hso.fits) rfl ?_
    refine WL.know (t := 26) (b' := false) rfl (by rw [eqV_self]; rfl) ?_
    refine WL.nil ?_
    refine WC.condF rfl (by first | rfl | (simp; done) | (simp; omega)) ?_
    refine WC.skip ?_
    refine WC.seq ?_
    refine WC.seq ?_
    refine WC.region ?_
    refine WL.y (Yl.move rfl) rfl ?_
    refine WL.view (fun w h => h.dup (r := rdR (.slice al xs.length cl) 22 xs.length (vcs rcV xs)) (by repeat constructor) (fun _ h => h)) ?_
    refine WL.callC (xs := [.tmp 27]) (cap := []) rfl rfl en14 (by repeat' constructor) (fun w hw => val_any (.slice al xs.length cl) xs hG (by omega) w hw.left.here) rfl ?_
    rintro ⟨v2, o2⟩ -
    try dsimp only
    refine WL.y (Yl.move rfl) rfl ?_
    refine WL.y (Yl.move rfl) rfl ?_
    refine WL.callC (xs := [.tmp 28, .tmp 29, .tmp 30]) (cap := []) rfl rfl en28 (by repeat' constructor) (fun w hw => within_any 48 [.pointer (some ⟨v2, 0, none⟩)] o2 xs hG en48 fr tt w hw.left.here) rfl ?_
    rintro ⟨y1, y2, y3, o3⟩ -
    try dsimp only
    have hwo := wiS_ok (a := fr) (b := tt) hG
    have hwl := wiS_len fr tt xs
    refine WL.callC (xs := [.tmp 31]) (cap := []) rfl rfl en27 (by repeat' constructor) (fun w hw => col_any 71 [.pointer (some ⟨y1, 0, none⟩), .pointer (some ⟨y2, 0, none⟩), .pointer (some ⟨y3, 0, none⟩)] o3 (wiS fr tt xs) hwo (by omega) en71 w hw.left.here) rfl ?_
    rintro ⟨a32, c32⟩ -
    try dsimp only [List.cons_append, List.nil_append]
    refine WL.y (Yl.move rfl) rfl ?_
    refine WL.y (Yl.move rfl) rfl ?_
    refine WL.y (Yl.move rfl) rfl ?_
    refine WL.callC (xs := [.tmp 33, .tmp 34, .tmp 35]) (cap := []) rfl rfl en29 (by repeat' constructor) (fun w hw => withinR_any (.slice al xs.length cl) xs hG (by omega) fr tt w (hw.src (A := []) (r := rdR (.slice al xs.length cl) 22 xs.length (vcs rcV xs)) RdOf.rd' (by repeat constructor)) hw.left.here) rfl ?_
    rintro ⟨a36, c36⟩ -
    try dsimp only [List.cons_append, List.nil_append]
    refine WL.callC (xs := [.tmp 32, .tmp 36]) (cap := []) rfl rfl en26 (by repeat' constructor) (fun w hw => equalR_any (.slice a32 (wiS fr tt xs).length c32) (.slice a36 (wiS fr tt xs).length c36) (wiS fr tt xs) (wiS fr tt xs) hwo hwo (by omega) w (hw.src (A := []) (r := ownR (.slice a32 (wiS fr tt xs).length c32) 45 22 (wiS fr tt xs).length (vcs rcV (wiS fr tt xs))) RdOf.own (by repeat constructor)) (hw.src (A := []) (r := ownR (.slice a36 (wiS fr tt xs).length c36) 45 22 (wiS fr tt xs).length (vcs rcV (wiS fr tt xs))) RdOf.own (by repeat constructor)) hw.left.here) rfl ?_
    rintro ⟨⟩ -
    refine WL.y (Yl.not rfl) rfl ?_
    refine WL.know (t := 38) (b' := false) rfl (by simp) ?_
    refine WL.y (Yl.move rfl) rfl ?_
    refine WL.on rfl rfl ?_
    refine WL.y (Yl.move rfl) rfl ?_
    refine WL.on rfl rfl ?_
    refine WL.view (fun w h => h.dup (r := rdR (.slice al xs.length cl) 22 xs.length (vcs rcV xs)) (by repeat constructor) (fun _ h => h)) ?_
    refine WL.callC (xs := [.tmp 40]) (cap := []) rfl rfl en14 (by repeat' constructor) (fun w hw => val_any (.slice al xs.length cl) xs hG (by omega) w hw.left.here) rfl ?_
    rintro ⟨v4, o4⟩ -
    try dsimp only
    refine WL.on rfl rfl ?_
    refine WL.y (Yl.move rfl) rfl ?_
    refine WL.on rfl rfl ?_
    refine WL.callC (xs := [.tmp 41, .tmp 42, .func 31]) (cap := []) rfl rfl en30 (by repeat' constructor) (fun w hw => topI_any 48 [.pointer (some ⟨v4, 0, none⟩)] o4 xs hG (by omega) en48 n w hw.left.here) rfl ?_
    rintro ⟨a43, c43⟩ -
    try dsimp only [List.cons_append, List.nil_append]
    have hto := topS_ok (key := tkF) (n := n.toNat) hG
    have htl := topS_len tkF n.toNat xs
    refine WL.on rfl rfl ?_
    refine WL.y (Yl.move rfl) rfl ?_
    refine WL.on rfl rfl ?_
    refine WL.y (Yl.move rfl) rfl ?_
    refine WL.on rfl rfl ?_
    refine WL.callC (xs := [.tmp 44, .tmp 45]) (cap := []) rfl rfl en32 (by repeat' constructor) (fun w hw => long_any (.slice al xs.length cl) xs hG (by omega) n w (hw.src (A := []) (r := rdR (.slice al xs.length cl) 22 xs.length (vcs rcV xs)) RdOf.rd' (by repeat constructor)) hw.left.here) rfl ?_
    rintro ⟨a46, c46⟩ -
    try dsimp only [List.cons_append, List.nil_append]
    refine WL.on rfl rfl ?_
    refine WL.callC (xs := [.tmp 43, .tmp 46]) (cap := []) rfl rfl en26 (by repeat' constructor) (fun w hw => equalR_any (.slice a43 (topS tkF n.toNat xs).length c43) (.slice a46 (topS tkF n.toNat xs).length c46) (topS tkF n.toNat xs) (topS tkF n.toNat xs) hto hto (by omega) w (hw.src (A := []) (r := ownR (.slice a43 (topS tkF n.toNat xs).length c43) 45 22 (topS tkF n.toNat xs).length (vcs rcV (topS tkF n.toNat xs))) RdOf.own (by repeat constructor)) (hw.src (A := []) (r := ownR (.slice a46 (topS tkF n.toNat xs).length c46) 45 22 (topS tkF n.toNat xs).length (vcs rcV (topS tkF n.toNat xs))) RdOf.own (by repeat constructor)) hw.left.here) rfl ?_
    rintro ⟨⟩ -
    refine WL.on rfl rfl ?_
    refine WL.y (Yl.not rfl) rfl ?_
    refine WL.know (t := 48) (b' := false) rfl (by simp) ?_
    refine WL.y (Yl.pickF rfl rfl) rfl ?_
    refine WL.nil ?_
    refine WC.condF rfl (by first | rfl | (simp; done) | (simp; omega)) ?_
    refine WC.skip ?_
    refine WC.seq ?_
    refine WC.region ?_
    refine WL.y (Yl.move rfl) rfl ?_
    refine WL.view (fun w h => h.dup (r := rdR (.slice al xs.length cl) 22 xs.length (vcs rcV xs)) (by repeat constructor) (fun _ h => h)) ?_
    refine WL.callC (xs := [.tmp 51]) (cap := []) rfl rfl en14 (by repeat' constructor) (fun w hw => val_any (.slice al xs.length cl) xs hG (by omega) w hw.left.here) rfl ?_
    rintro ⟨v5, o5⟩ -
    try dsimp only
    refine WL.view (fun w h => OK.toKy (A := []) (k := .u8) (own := fun _ => False) h (peerS_ky w) (fun _ h => h.elim)) ?_
    refine WL.callC (xs := [.tmp 52, .func 33]) (cap := []) rfl rfl en23 (by repeat' constructor) (fun w hw => byB_any 48 [.pointer (some ⟨v5, 0, none⟩)] o5 xs hG (by omega) en48 33 [] (fun _ => False) (fun r => r.peer) (fun x hx => wf8 hx.peer) en33 w hw.left.here) rfl ?_
    rintro ⟨z1, z2, o6⟩ -
    try dsimp only
    have hvl := byV_le (fun r : Rc => r.peer) xs
    have hkl := byV_len (fun r : Rc => r.peer) xs
    obtain ⟨mx, hmx⟩ : ∃ mx : Nat, (mx : Int) = max left 1 := ⟨(max left 1).toNat, by omega⟩
    refine WL.y (Yl.move rfl) rfl ?_
    refine WL.y (Yl.max2 rfl rfl) rfl ?_
    refine WL.say (t := 55) (v' := .int .i64 (mx : Int)) rfl (by (refine congrArg _ ?_; rw [hmx]; split <;> omega)) ?_
    refine WL.callC (xs := [.tmp 53, .tmp 55]) (cap := []) rfl rfl en22 (by repeat' constructor) (fun w hw => sumsB_any 65 [.pointer (some ⟨z1, 0, none⟩), .pointer (some ⟨z2, 0, none⟩)] o6 (byV (fun r : Rc => r.peer) xs) (fun p hp => (byV_u8 hG p hp).2.ol) (by omega) en65 mx (by omega) w hw.left.here) rfl ?_
    rintro ⟨⟨ak, ck⟩, ⟨az, cz⟩⟩ -
    unfold smRB
    have hVl : ((byV (fun r : Rc => r.peer) xs).take mx).length = min mx (byK (fun r : Rc => r.peer) xs).length := by rw [List.length_take, hkl]
    have hVa : ∀ (j : Nat) k, j < mx → (byK (fun r : Rc => r.peer) xs)[j]? = some k → ((byV (fun r : Rc => r.peer) xs).take mx)[j]? = some (k, sumS (selS (fun r : Rc => r.peer) k xs)) := fun j k hj hk => by
      rw [List.getElem?_take, if_pos hj]
      unfold byV
      rw [List.getElem?_map, hk]
      rfl
    have hVo : ∀ s ∈ ((byV (fun r : Rc => r.peer) xs).take mx).map (·.2), s.oc.length = 8 := fun s hs => by
      obtain ⟨p, hp, rfl⟩ := List.mem_map.1 hs
      exact (byV_u8 hG p (List.mem_of_mem_take hp)).2.ol
    have hKp := byK_lt (fun r : Rc => r.peer) xs
    have hKu : ∀ k ∈ byK (fun r : Rc => r.peer) xs, 0 ≤ k ∧ k < 256 := fun k hk => by
      obtain ⟨x, hx, rfl⟩ := (byK_mem (fun r : Rc => r.peer)).1 hk
      exact (hG x hx).peer
    generalize (byV (fun r : Rc => r.peer) xs).take mx = V at hVl hVa hVo ⊢
    have hKn : ∀ k, selS (fun r : Rc => r.peer) k xs = [] ↔ k ∉ byK (fun r : Rc => r.peer) xs := fun k => selS_nil
    have hVk : V.length ≤ 300 := by rw [hVl]; omega
    generalize byK (fun r : Rc => r.peer) xs = K at hVl hVa hKp hKu hKn
    try dsimp only [List.cons_append, List.nil_append]
    refine WL.y (Yl.move rfl) rfl ?_
    refine WL.y (Yl.extract rfl rfl) rfl ?_
    refine WL.y (Yl.extract rfl rfl) rfl ?_
    refine WL.y (Yl.assign rfl) rfl ?_
    refine WL.y (Yl.assign rfl) rfl ?_
    refine WL.nil ?_
    refine WC.seq ?_
    refine WC.region ?_
    refine WL.y (Yl.assign rfl) rfl ?_
    refine WL.nil ?_
    refine WC.seq ?_
    refine WC.seq ?_
    refine WC.region ?_
    refine WL.y (Yl.move rfl) rfl ?_
    refine WL.nil ?_
    refine WC.block ?_
    refine WC.loop (α := Nat × Nat) (fun k => [(0, .slice al xs.length cl), (4, .int .i64 left), (11, .slice ak V.length ck), (12, .slice az V.length cz), (13, .int .i64 (k.2 : Int)), (59, .int .i64 (k.1 : Int))]) (fun _ => [rdR (.slice al xs.length cl) 22 xs.length (vcs rcV xs), ownR (.slice ak V.length ck) 5 1 V.length (ints .u8 (V.map (·.1))), ownR (.slice az V.length cz) 37 15 V.length (vcs smV (V.map (·.2)))]) (fun k => k.1 ≤ 256 ∧ k.2 = min mx (cntK K (k.1 : Int))) (fun k => 256 - k.1) (0, 0) ⟨by decide, by rw [show ((0 : Nat) : Int) = 0 from rfl, cntK_zero (fun k hk => (hKu k hk).1)]; omega⟩ ⟨(by repeat' constructor), _, (by repeat' constructor)⟩ ?_
    rintro ⟨q, at0⟩ ⟨hq, hat⟩
    dsimp only at hq hat ⊢
    refine WC.seq ?_
    refine WC.region ?_
    refine WL.y (Yl.lss rfl rfl) rfl ?_
    refine WL.nil ?_
    refine WC.seq ?_
    refine WC.condD rfl (fun g60 => ?_) (fun g60 => ?_)
    · refine WC.skip ?_
      refine WC.seq ?_
      refine WC.block ?_
      refine WC.seq ?_
      refine WC.region ?_
      have hq2 : q < 256 := by omega
      refine WL.y (Yl.move rfl) rfl ?_
      refine WL.y (Yl.assign rfl) rfl ?_
      refine WL.nil ?_
      refine WC.seq ?_
      refine WC.region ?_
      refine WL.y (Yl.move rfl) rfl ?_
      refine WL.y (Yl.move rfl) rfl ?_
      refine WL.y (Yl.conv un3 un5 rfl (show IntKind.u8.wrap (q : Int) = (q : Int) by rw [IntKind.wrap_u8]; omega)) rfl ?_
      refine WL.callC (xs := [.tmp 62, .tmp 64]) (cap := []) rfl rfl en34 (by repeat' constructor) (fun w hw => peer_any (.slice al xs.length cl) xs hG (by omega) (q : Int) w (hw.src (A := []) (r := rdR (.slice al xs.length cl) 22 xs.length (vcs rcV xs)) RdOf.rd' (by repeat constructor)) hw.left.here) rfl ?_
      rintro ⟨a65, c65⟩ -
      try dsimp only [List.cons_append, List.nil_append]
      have hO : ROk (selS (fun r : Rc => r.peer) (q : Int) xs) := selS_ok (fun r : Rc => r.peer) hG (q : Int)
      have hOl := sel_len (fun r : Rc => r.peer) (q : Int) xs
      have hOn := hKn (q : Int)
      have hOv := fun j hj hk => hVa j (q : Int) hj hk
      generalize selS (fun r : Rc => r.peer) (q : Int) xs = O at hO hOl hOn hOv ⊢
      have hsO := sumS_ok hO
      refine WL.y (Yl.assign rfl) rfl ?_
      refine WL.nil ?_
      refine WC.seq ?_
      refine WC.seq ?_
      refine WC.region ?_
      refine WL.y (Yl.move rfl) rfl ?_
      refine WL.y (Yl.len un33 rfl) rfl ?_
      refine WL.y (Yl.eql rfl rfl) rfl ?_
      refine WL.y (Yl.move rfl) rfl ?_
      refine WL.both (t := 69) rfl (fun g69 => ?_) (fun g69 => ?_)
      · refine WL.off rfl rfl rfl rfl ?_
        refine WL.off rfl rfl rfl rfl ?_
        refine WL.off rfl rfl rfl rfl ?_
        refine WL.off rfl rfl rfl rfl ?_
        refine WL.y (Yl.pickT rfl rfl) rfl ?_
        refine WL.nil ?_
        refine WC.condT rfl (by first | rfl | (simp; done) | (simp; omega)) ?_
        refine WC.exit ?_
        refine WC.region ?_
        refine WL.y (Yl.add rfl rfl (IntWalk.i64_in _ (by omega))) rfl ?_
        refine WL.y (Yl.move rfl) rfl ?_
        refine WL.nil ?_
        have h0 : O = [] := List.length_eq_zero_iff.1 (by have h := g69; simp at h; first | exact h | (rw [h]; rfl) | omega)
        have hs := cntK_not (hOn.1 h0)
        exact ⟨rfl, (q + 1, at0), ⟨by dsimp only; omega, by dsimp only; rw [Int.natCast_succ, hs]; exact hat⟩, by dsimp only; omega, (by repeat' constructor), _, (by repeat' constructor)⟩
      · refine WL.on rfl rfl ?_
        refine WL.y (Yl.move rfl) rfl ?_
        refine WL.on rfl rfl ?_
        refine WL.y (Yl.move rfl) rfl ?_
        refine WL.on rfl rfl ?_
        refine WL.y (Yl.max2 rfl rfl) rfl ?_
        refine WL.say (t := 72) (v' := .int .i64 (mx : Int)) rfl (by (refine congrArg _ ?_; rw [hmx]; split <;> omega)) ?_
        refine WL.on rfl rfl ?_
        refine WL.y (Yl.geq rfl rfl) rfl ?_
        refine WL.y (Yl.pickF rfl rfl) rfl ?_
        refine WL.nil ?_
        refine WC.condD rfl (fun g74 => ?_) (fun g74 => ?_)
        · refine WC.exit ?_
          refine WC.region ?_
          refine WL.y (Yl.add rfl rfl (IntWalk.i64_in _ (by omega))) rfl ?_
          refine WL.y (Yl.move rfl) rfl ?_
          refine WL.nil ?_
          have h0 : ¬ O = [] := fun e => by subst e; have h := g69; simp at h
          have hm : (q : Int) ∈ K := Classical.not_not.1 fun h => h0 (hOn.2 h)
          obtain ⟨_, hs⟩ := cntK_mem hKp hm
          have hge := g74
          exact ⟨rfl, (q + 1, at0), ⟨by dsimp only; omega, by dsimp only; rw [Int.natCast_succ, hs]; omega⟩, by dsimp only; omega, (by repeat' constructor), _, (by repeat' constructor)⟩
        · refine WC.skip ?_
          refine WC.seq ?_
          refine WC.seq ?_
          have h0 : ¬ O = [] := fun e => by subst e; have h := g69; simp at h
          have hm : (q : Int) ∈ K := Classical.not_not.1 fun h => h0 (hOn.2 h)
          obtain ⟨hk0, hs⟩ := cntK_mem hKp hm
          have hge := g74
          have hax : at0 < mx := by omega
          have hac : at0 = cntK K (q : Int) := by omega
          rw [← hac] at hk0
          have hv := hOv at0 hax hk0
          have hkl2 := (List.getElem?_eq_some_iff.1 hv).1
          refine WC.drawAny (Hs := [ownR (.slice ak V.length ck) 5 1 V.length (ints .u8 (V.map (·.1))), ownR (.slice az V.length cz) 37 15 V.length (vcs smV (V.map (·.2))), ownR (.slice a65 O.length c65) 45 22 O.length (vcs rcV O)]) mixed (by kernel_rfl) ⟨_, (by repeat' constructor)⟩ ?_
          refine WD.tk 0 rfl (by kernel_rfl) rfl rfl (Yl.move rfl) rfl ?_
          refine WD.tk 1 rfl (by kernel_rfl) rfl rfl (Yl.move rfl) rfl ?_
          refine WD.tk 2 rfl (by kernel_rfl) rfl rfl (Yl.len un62 rfl) rfl ?_
          refine WD.tk 3 rfl (by kernel_rfl) rfl rfl (Yl.geq rfl rfl) rfl ?_
          refine WD.know (t := 78) (b' := false) rfl (by simp; omega) ?_
          refine WD.tk 4 rfl (by kernel_rfl) rfl rfl (Yl.move rfl) rfl ?_
          refine WD.takeOn 5 rfl (by kernel_rfl) (by kernel_rfl) (by kernel_rfl) rfl rfl rfl rfl (Yl.move rfl) rfl ?_
          refine WD.takeOn 6 rfl (by kernel_rfl) (by kernel_rfl) (by kernel_rfl) rfl rfl rfl rfl (Yl.move rfl) rfl ?_
          refine WD.takeOn 7 rfl (by kernel_rfl) (by kernel_rfl) (by kernel_rfl) rfl rfl rfl rfl (Yl.index (j := at0) un62 sz5 rfl rfl (Reads.of (r := ownR (.slice ak V.length ck) 5 1 V.length (ints .u8 (V.map (·.1)))) RdOf.own (by repeat constructor)) rfl (by omega)) rfl ?_
          refine WD.takeOn 8 rfl (by kernel_rfl) (by kernel_rfl) (by kernel_rfl) rfl rfl rfl rfl (Yl.loadE (j := at0) (u := .int .u8 (q : Int)) on5 rfl (Reads.of (r := ownR (.slice ak V.length ck) 5 1 V.length (ints .u8 (V.map (·.1)))) RdOf.own (by repeat constructor)) (by simp [ints, hv])) rfl ?_
          refine WD.takeOn 9 rfl (by kernel_rfl) (by kernel_rfl) (by kernel_rfl) rfl rfl rfl rfl (Yl.move rfl) rfl ?_
          refine WD.takeOn 10 rfl (by kernel_rfl) (by kernel_rfl) (by kernel_rfl) rfl rfl rfl rfl (Yl.conv un3 un5 rfl (show IntKind.u8.wrap (q : Int) = (q : Int) by rw [IntKind.wrap_u8]; omega)) rfl ?_
          refine WD.takeOn 11 rfl (by kernel_rfl) (by kernel_rfl) (by kernel_rfl) rfl rfl rfl rfl (Yl.neq rfl rfl) rfl ?_
          refine WD.know (t := 86) (b' := false) rfl (by simp) ?_
          refine WD.tk 12 rfl (by kernel_rfl) rfl rfl (Yl.pickF rfl rfl) rfl ?_
          refine WD.tk 13 rfl (by kernel_rfl) rfl rfl (Yl.move rfl) rfl ?_
          refine WD.takeOn 14 rfl (by kernel_rfl) (by kernel_rfl) (by kernel_rfl) rfl rfl rfl rfl (Yl.move rfl) rfl ?_
          refine WD.takeOn 15 rfl (by kernel_rfl) (by kernel_rfl) (by kernel_rfl) rfl rfl rfl rfl (Yl.move rfl) rfl ?_
          refine WD.takeOn 16 rfl (by kernel_rfl) (by kernel_rfl) (by kernel_rfl) rfl rfl rfl rfl (Yl.index (j := at0) un49 sz37 rfl rfl (Reads.of (r := ownR (.slice az V.length cz) 37 15 V.length (vcs smV (V.map (·.2)))) RdOf.own (by repeat constructor)) rfl (by omega)) rfl ?_
          refine WD.takeOn 17 rfl (by kernel_rfl) (by kernel_rfl) (by kernel_rfl) rfl rfl rfl rfl (Yl.loadV (j := at0) (u := sumS O) vtSB hVo rfl (Reads.of (r := ownR (.slice az V.length cz) 37 15 V.length (vcs smV (V.map (·.2)))) RdOf.own (by repeat constructor)) (List.length_map _) (by rw [List.getElem?_map, hv]; rfl)) rfl ?_
          refine WD.takeOn 18 rfl (by kernel_rfl) (by kernel_rfl) (by kernel_rfl) rfl rfl rfl rfl (Yl.move rfl) rfl ?_
          refine WD.one 19 (by kernel_rfl) ?_
          refine WO.callC (xs := [.tmp 93]) (cap := []) rfl (.on rfl rfl) rfl rfl en25 (by repeat' constructor) (fun w hw => refOf_any (.slice a65 O.length c65) O hO (by omega) w (hw.src (A := []) (r := ownR (.slice a65 O.length c65) 45 22 O.length (vcs rcV O)) RdOf.own (by repeat constructor)) hw.left.here) rfl (fun _ => ⟨_, (by repeat' constructor)⟩) ?_
          rintro ⟨⟩ -
          refine WD.takeOn 20 rfl (by kernel_rfl) (by kernel_rfl) (by kernel_rfl) rfl rfl rfl rfl (Yl.neA (xs := (sumS O).cells) (ys := (sumS O).cells) flRSum rfl rfl hsO.fits hsO.fits) rfl ?_
          refine WD.know (t := 95) (b' := false) rfl (by rw [eqV_self]; rfl) ?_
          refine WD.tk 21 rfl (by kernel_rfl) rfl rfl (Yl.pickF rfl rfl) rfl ?_
          refine WD.done (by kernel_rfl) ?_
          refine WC.condF rfl (by first | rfl | (simp; done) | (simp; omega)) ?_
          refine WC.skip ?_
          refine WC.region ?_
          refine WL.y (Yl.move rfl) rfl ?_
          refine WL.y (Yl.add rfl rfl (IntWalk.i64_in _ (by omega))) rfl ?_
          refine WL.y (Yl.assign rfl) rfl ?_
          refine WL.nil ?_
          refine WC.region ?_
          refine WL.y (Yl.add rfl rfl (IntWalk.i64_in _ (by omega))) rfl ?_
          refine WL.y (Yl.move rfl) rfl ?_
          refine WL.nil ?_
          exact ⟨rfl, (q + 1, at0 + 1), ⟨by dsimp only; omega, by dsimp only; rw [Int.natCast_succ, hs]; omega⟩, by dsimp only; omega, (by repeat' constructor), _, (by repeat' constructor)⟩
    · refine WC.exit ?_
      refine WC.seq ?_
      refine WC.region ?_
      obtain rfl : q = 256 := by omega
      rw [show ((256 : Nat) : Int) = 256 from rfl, cntK_all (fun k hk => (hKu k hk).2)] at hat
      have he : at0 = V.length := by rw [hVl]; exact hat
      rw [he]
      refine WL.y (Yl.move rfl) rfl ?_
      refine WL.y (Yl.move rfl) rfl ?_
      refine WL.y (Yl.len un62 rfl) rfl ?_
      refine WL.y (Yl.eql rfl rfl) rfl ?_
      refine WL.know (t := 103) (b' := true) rfl (by simp) ?_
      refine WL.y (Yl.assign rfl) rfl ?_
      refine WL.nil ?_
      refine WC.ret ?_
      repeat (with_reducible (first | refine peelT ?_ | refine peelB ?_ | refine peelTX ?_ | refine peelBX ?_ | refine peelBN ?_ | refine peelBO rfl ?_))
      exact ret1 (.inr rfl) Tryz.results6 rfl fun w' h => ⟨(), trivial, rfl, h.sub (by repeat' constructor)⟩
end Go.Proofs.YtbgimajbehodnaaGreatDoor

namespace Go.Proofs.YtbgimajbehodnaaGreatDoor
open Go Go.RowKit
theorem trod_ifc {H : Type} {enc : TypeId × Value → H} {P : Program} {w : World} {base : Nat} {spare : Nat → Bool} {held : Bool} {fuel : Nat} {t : TypeId} {cs : List Value} {x : DataW H × List MemPlace} (ht : isIfcB P t = true) (h : DataW.trod enc P w base spare held fuel t cs = some x) : ∃ v, cs = [v] ∧ (v = .nilIface ∨ ∃ te pe, v = .iface te pe) := by
  obtain ⟨ms, hms⟩ : ∃ ms, P.underlying t = some (.interface ms) := by
    unfold isIfcB at ht
    split at ht
    · rename_i ms h; exact ⟨ms, h⟩
    · cases ht
  cases fuel with
  | zero => simp [DataW.trod] at h
  | succ n =>
    unfold DataW.trod at h
    rw [hms] at h
    match cs, h with
    | [.nilIface], _ => exact ⟨_, rfl, .inl rfl⟩
    | [.iface te pe], _ => exact ⟨_, rfl, .inr ⟨te, pe, rfl⟩⟩
theorem var_ifc {W : World} {nm : String} {g : Nat} {d : DataW Unit} (hg : Tryz.prog.globalNamed nm = some g) (ht : (Tryz.prog.globals[g]?).map (·.type) = some 125) (h : laidMet Tryz.prog [(nm, d)] W) : ∃ v, W.var? Tryz.prog nm = some #[v] ∧ (v = .nilIface ∨ ∃ te pe, v = .iface te pe) := by
  obtain ⟨ps, ⟨g', t', cs, fuel, p, q, hg', ht', hvar, hd, _, _⟩, _⟩ := h
  obtain rfl := Option.some.inj (hg.symm.trans hg')
  obtain rfl := Option.some.inj (ht.symm.trans ht')
  obtain ⟨v, hv, h2⟩ := trod_ifc (by kernel_rfl) hd
  refine ⟨v, ?_, h2⟩
  rw [hvar]
  congr 1
  exact Array.toList_inj.1 hv
theorem var_at {w : World} {nm : String} {g : Nat} {v : Value} {t : TypeId} (hg : Tryz.prog.globalNamed nm = some g) (h : w.heap[g]? = some (.cells #[v] t)) : w.var? Tryz.prog nm = some #[v] := by
  unfold World.var?
  rw [hg, Option.bind_some, h]
theorem max_int {w : World} (h : w.ShapedOpen Tryz.prog) : ∃ m : Int, w.var? Tryz.prog "internal/bytealg.MaxLen" = some #[.int .i64 m] := by
  obtain ⟨cs, hh, hs, _⟩ := h.1 1 #[.int .i64 0] 3 (of_decide_eq_true (by kernel_rfl)) (by kernel_rfl)
  obtain ⟨m, hm⟩ : ∃ m, w.cell? ⟨1, 0, none⟩ = some (.int .i64 m) := cell_of_shapedOpen_int (g := 1) (t := 3) (zero := #[.int .i64 0]) (k := .i64) h (of_decide_eq_true (by kernel_rfl)) (by kernel_rfl) rfl (by kernel_rfl) (by kernel_rfl) (by kernel_rfl)
  refine ⟨m, var_at (t := 3) gn1 ?_⟩
  rw [hh]
  have h1 : 0 < cs.size := by rw [hs]; decide
  have hc : cs[0] = .int .i64 m := by simpa [World.cell?, hh, h1] using hm
  congr 2
  apply Array.ext
  · rw [hs]; rfl
  · intro i h2 h3
    have : i = 0 := by simp at h3; exact h3
    subst this
    exact hc
theorem tab_of {W : World} (h : laidMetH Tryz.prog Rows.reportSumsRow.laid W) : Lib.TabIs Tryz.prog W "internal/strconv.uint64pow10" .u64 Lib.pow10Tab := by
  have h2 := h.filter (fun x => x.1 == "internal/strconv.uint64pow10")
  exact Lib.tabIs_of_head (rest := []) gn0 (by kernel_rfl) (n := 20) (t := 212) (e := 34) (by kernel_rfl) (by kernel_rfl) (by kernel_rfl) (by kernel_rfl) h2
theorem gl_of {W : World} (h : laidMetH Tryz.prog Rows.reportSumsRow.laid W) (hs : W.ShapedOpen Tryz.prog) : glR.ok W := by
  have h2 : laidMet Tryz.prog [("strconv.ErrSyntax", Rows.laid_strconv_ErrSyntax)] W := h.filter (fun x => x.1 == "strconv.ErrSyntax")
  have h3 : laidMet Tryz.prog [("strconv.ErrRange", Rows.laid_strconv_ErrRange)] W := h.filter (fun x => x.1 == "strconv.ErrRange")
  refine ⟨⟨tab_of h, var_ifc gn2 (by kernel_rfl) h2, var_ifc gn3 (by kernel_rfl) h3, max_int hs⟩, ?_⟩
  obtain ⟨v, e, _⟩ := var_ifc gn3 (by kernel_rfl) h3
  unfold World.var? at e
  rw [gn3, Option.bind_some] at e
  rcases Nat.lt_or_ge 3 W.heap.size with h' | h'
  · exact h'
  · rw [Array.getElem?_eq_none h'] at e; cases e
theorem Rc.of_fits {cs : List Value} (h : Fits1 rcLeaf cs) : ∃ r : Rc, r.ok ∧ cs = r.cells := by
  obtain ⟨h1, h2⟩ := Fits1.app (ks := List.replicate 16 (some .u8)) h
  rw [List.length_replicate] at h1 h2
  obtain ⟨id, e1, hl, hb⟩ := fits_bytes h1
  obtain ⟨ds, e2⟩ : ∃ ds, cs.drop 16 = ds := ⟨_, rfl⟩
  rw [e2] at h2
  have hcs : cs = ints .u8 id ++ ds := by rw [← e1, ← e2, List.take_append_drop]
  match ds, h2 with
  | [.int q1 p, .bool o, .int q2 c, .int q3 b, .int q4 a, .int q5 e], h2 =>
    obtain ⟨⟨rfl, w1⟩, _, ⟨rfl, w2⟩, ⟨rfl, w3⟩, ⟨rfl, w4⟩, ⟨rfl, w5⟩, _⟩ := h2
    exact ⟨⟨id, p, o, c, b, a, e⟩, ⟨hl, hb, wf_u8 w1, wf_u8 w2, wf_u64 w3, wf_u64 w4, wf_u64 w5⟩, hcs⟩
section
variable {w : World} {base : Nat} {sp : Nat → Bool} {held : Bool} {H : Type} {enc : TypeId × Value → H}
theorem open_recs {a : Option Addr} {len cap : Nat} {x : DataW H} {p : List MemPlace} (h : DataW.Trod enc Tryz.prog w base sp held 33 (.slice a len cap) x p) : ∃ rs : List Rc, rs.length = len ∧ ROk rs ∧ Rd w 22 (.slice a len cap) len (vcs rcV rs) := by
  obtain ⟨xss, h1, h2, h3⟩ := open_flats (d := 5) (ks := rcLeaf) un33 (by kernel_rfl) (by kernel_rfl) h
  have : ∃ rs : List Rc, xss = rs.map Rc.cells ∧ ROk rs := by
    clear h1 h3
    induction xss with
    | nil => exact ⟨[], rfl, fun x hx => nomatch hx⟩
    | cons ys xss ih =>
      obtain ⟨rs, rfl, hrs⟩ := ih (fun zs hz => h2 zs (by simp [hz]))
      obtain ⟨r, hr, rfl⟩ := Rc.of_fits (h2 ys (by simp)).1
      exact ⟨r :: rs, rfl, fun z hz => by
        rcases List.mem_cons.1 hz with rfl | hz
        · exact hr
        · exact hrs z hz⟩
  obtain ⟨rs, rfl, hrs⟩ := this
  refine ⟨rs, by simpa using h1, hrs, ?_⟩
  have e1 : (rs.map Rc.cells).flatten = vcs rcV rs := by
    clear h1 h2 h3 hrs
    induction rs with
    | nil => rfl
    | cons y ys ih => rw [List.map_cons, List.flatten_cons, ih, vcs_cons]; simp [rcV, Value.cells]
  rwa [e1] at h3
end
end Go.Proofs.YtbgimajbehodnaaGreatDoor
