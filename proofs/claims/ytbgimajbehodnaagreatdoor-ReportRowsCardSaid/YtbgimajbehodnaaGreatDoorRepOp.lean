/- Records by a key: all of them, each once: plain laws. -/
import Derived.Test.YtbgimajbehodnaaGreatDoorRepZ
import Derived.Test.YtbgimajbehodnaaGreatDoorRepYB
import Derived.Test.YtbgimajbehodnaaGreatDoorLibZ
import Derived.Test.YtbgimajbehodnaaGreatDoorLibM
import Derived.Test.YtbgimajbehodnaaGreatDoorRows
import Derived.Lib.LaidTab
import Derived.LaidSub
import Derived.Shelf.Vars
namespace Go.Proofs.YtbgimajbehodnaaGreatDoor
open Go Go.RowKit
theorem fm_perm {K : List Int} (hn : K.Nodup) {a : Int} (ha : a ∈ K) (x : Rc) (f : Int → List Rc) : (K.flatMap fun k => if a = k then x :: f k else f k).Perm (x :: K.flatMap f) := by
  induction K with
  | nil => cases ha
  | cons k K ih =>
    rw [List.nodup_cons] at hn
    rw [List.flatMap_cons, List.flatMap_cons]
    by_cases e : a = k
    · subst e
      rw [if_pos rfl, List.cons_append]
      have h2 : (K.flatMap fun k => if a = k then x :: f k else f k) = K.flatMap f := by
        rw [List.flatMap_def, List.flatMap_def]
        congr 1
        refine List.map_congr_left fun b hb => ?_
        rw [if_neg (fun e => hn.1 (by rw [e]; exact hb))]
      rw [h2]
    · rw [if_neg e]
      rcases List.mem_cons.1 ha with h | h
      · exact absurd h e
      · exact (List.Perm.append_left (f k) (ih hn.2 h)).trans List.perm_middle
theorem sel_perm {key : Rc → Int} {K : List Int} (hn : K.Nodup) : ∀ {xs : List Rc}, (∀ x ∈ xs, key x ∈ K) → (K.flatMap fun k => selS key k xs).Perm xs
  | [], _ => by
    have : (K.flatMap fun k => selS key k []) = [] := by simp [selS]
    rw [this]
  | x :: xs, h => by
    have h1 := fm_perm hn (h x (by simp)) x (fun k => selS key k xs)
    have h2 : (fun k => selS key k (x :: xs)) = fun k => if key x = k then x :: selS key k xs else selS key k xs := by
      funext k
      unfold selS
      rw [List.filter_cons]
      by_cases e : key x = k
      · rw [if_pos (by simpa using e), if_pos e]
      · rw [if_neg (by simpa using e), if_neg e]
    rw [h2]
    exact h1.trans ((sel_perm hn fun y hy => h y (List.mem_cons_of_mem _ hy)).cons x)
theorem by_perm (key : Rc → Int) (xs : List Rc) : ((byK key xs).flatMap fun k => selS key k xs).Perm xs :=
  sel_perm (byK_nd key xs) fun x hx => (byK_mem key).2 ⟨x, hx, rfl⟩
/-- How many records the first i keys have. -/
def cntN (key : Rc → Int) (xs : List Rc) (i : Nat) : Nat := (((byK key xs).take i).flatMap fun k => selS key k xs).length
theorem cntN_all (key : Rc → Int) (xs : List Rc) : cntN key xs (byK key xs).length = xs.length := by
  unfold cntN
  rw [List.take_length]
  exact (by_perm key xs).length_eq
theorem cntN_step {key : Rc → Int} {xs : List Rc} {i : Nat} {k : Int} (h : (byK key xs)[i]? = some k) : cntN key xs (i + 1) = cntN key xs i + (selS key k xs).length := by
  unfold cntN
  rw [← take_snoc _ _ _ h, List.flatMap_append, List.length_append, List.flatMap_cons, List.flatMap_nil, List.append_nil]
theorem cntN_le (key : Rc → Int) (xs : List Rc) (i : Nat) : cntN key xs i ≤ xs.length := by
  rw [← cntN_all key xs]
  unfold cntN
  rw [List.take_length]
  conv => rhs; rw [← List.take_append_drop i (byK key xs), List.flatMap_append, List.length_append]
  omega
theorem sel_len (key : Rc → Int) (k : Int) (xs : List Rc) : (selS key k xs).length ≤ xs.length := List.length_filter_le _ _
end Go.Proofs.YtbgimajbehodnaaGreatDoor

namespace Go.Proofs.YtbgimajbehodnaaGreatDoor
open Go Go.RowKit
theorem peerR_ky (w : World) : KyP Tryz.prog 24 [] (fun _ => False) .u8 (fun r => r.peer) w := by
  intro w' _ x hx
  have hw : OK w' (fpL []) [] w' := ok_same
  refine enterF Tryz.func24 rfl Tryz.ntmps24 rfl hw ?_
  refine WC.seq ?_
  refine WC.region ?_
  refine WL.to (To.box (cs := x.cells) rfl rfl) rfl ?_
  intro b1
  refine WL.y (Yl.assign rfl) rfl ?_
  refine WL.nil ?_
  refine WC.seq ?_
  refine WC.region ?_
  refine WL.y (Yl.field fo45_1 rfl) rfl ?_
  refine WL.y (Yl.load on5 rfl (by repeat (first | exact Take1.head | apply Take1.tail)) (Rc.c16 hx.len)) rfl ?_
  refine WL.y (Yl.assign rfl) rfl ?_
  refine WL.nil ?_
  refine WC.ret ?_
  repeat (first | (with_reducible refine peelT ?_) | (with_reducible refine peelB ?_) | (with_reducible refine peelTX ?_) | (with_reducible refine peelBX ?_) | (with_reducible refine peelBN ?_) | (with_reducible refine peelBO rfl ?_))
  exact ret1 (.inr rfl) Tryz.results24 rfl fun w' h => ⟨(), trivial, rfl, h.sub (by repeat (first | exact TakeL.nil | (apply TakeL.cons; · repeat (first | exact Take1.head | apply Take1.tail))))⟩
set_option maxRecDepth 100000 in
set_option maxHeartbeats 1600000 in
theorem rowsLaw_any (v : Value) (xs : List Rc) (hG : ROk xs) (w : World) (hw : OK w (fpL [rdR v 22 xs.length (vcs rcV xs), glR]) [rdR v 22 xs.length (vcs rcV xs), glR] w) :
    Fn Tryz.prog 5 [v] [rdR v 22 xs.length (vcs rcV xs), glR] w (fun _ : Unit => True) (fun _ => .bool true) (fun _ => []) := by
  obtain ⟨al, cl, rfl, hcl, hml⟩ := (hw.get .head : Rd _ _ _ _ _).form
  refine enterF Tryz.func5 rfl Tryz.ntmps5 rfl hw ?_
  refine WC.seq ?_
  refine WC.region ?_
  refine WL.y (Yl.assign rfl) rfl ?_
  refine WL.nil ?_
  refine WC.seq ?_
  refine WC.seq ?_
  refine WC.region ?_
  refine WL.callC (xs := []) (cap := []) rfl rfl en8 (by repeat (first | exact TakeL.nil | (apply TakeL.cons; · repeat (first | exact Take1.head | apply Take1.tail)))) (fun w hw => known_any w hw.left.here) rfl ?_
  rintro ⟨⟩ -
  try dsimp only [List.cons_append, List.nil_append]
  refine WL.y (Yl.not rfl) rfl ?_
  refine WL.know (t := 12) (b' := false) rfl (by first | rfl | (simp; done) | (simp; omega)) ?_
  refine WL.nil ?_
  refine WC.condF rfl (by first | rfl | (simp; done) | (simp; omega)) ?_
  refine WC.skip ?_
  refine WC.seq ?_
  refine WC.seq ?_
  refine WC.region ?_
  refine WL.y (Yl.move rfl) rfl ?_
  refine WL.y (Yl.len un33 rfl) rfl ?_
  refine WL.y (Yl.gtr rfl rfl) rfl ?_
  refine WL.nil ?_
  refine WC.condD rfl (fun g15 => ?_) (fun g15 => ?_)
  · refine WC.seq ?_
    refine WC.region ?_
    refine WL.y (Yl.assign rfl) rfl ?_
    refine WL.nil ?_
    refine WC.ret ?_
    repeat (first | (with_reducible refine peelT ?_) | (with_reducible refine peelB ?_) | (with_reducible refine peelTX ?_) | (with_reducible refine peelBX ?_) | (with_reducible refine peelBN ?_) | (with_reducible refine peelBO rfl ?_))
    exact ret1 (.inr rfl) Tryz.results5 rfl fun w' h => ⟨(), trivial, rfl, h.sub (by repeat (first | exact TakeL.nil | (apply TakeL.cons; · repeat (first | exact Take1.head | apply Take1.tail))))⟩
  · refine WC.skip ?_
    refine WC.seq ?_
    refine WC.region ?_
    have hl300 : xs.length ≤ 300 := by omega
    have hvl := byV_le (fun r : Rc => r.peer) xs
    have hkl := byV_len (fun r : Rc => r.peer) xs
    refine WL.view (fun w h => h.dup (r := rdR (.slice al xs.length cl) 22 xs.length (vcs rcV xs)) (by repeat (first | exact Take1.head | apply Take1.tail)) (fun _ h => h)) ?_
    refine WL.view (fun w h => h.dup (r := glR) (by repeat (first | exact Take1.head | apply Take1.tail)) (fun _ h => h)) ?_
    refine WL.y (Yl.move rfl) rfl ?_
    refine WL.callC (xs := [.tmp 17]) (cap := []) rfl rfl en14 (by repeat (first | exact TakeL.nil | (apply TakeL.cons; · repeat (first | exact Take1.head | apply Take1.tail)))) (fun w hw => val_any (.slice al xs.length cl) xs hG (by omega) w hw.left.here) rfl ?_
    rintro ⟨v1, o1⟩ -
    try dsimp only
    refine WL.callC (xs := [.tmp 18]) (cap := []) rfl rfl en21 (by repeat (first | exact TakeL.nil | (apply TakeL.cons; · repeat (first | exact Take1.head | apply Take1.tail)))) (fun w hw => table_any 48 [.pointer (some ⟨v1, 0, none⟩)] o1 xs hG (by omega) en48 w hw.left.here) rfl ?_
    rintro ⟨⟩ -
    have htl : (tabI xs).length ≤ 200000000 := by
      have := rowsI_len (byV_u8 hG)
      unfold tabI
      rw [List.length_append, headI_len]
      omega
    refine WL.callC (xs := [.tmp 19]) (cap := []) rfl rfl en20 (by repeat (first | exact TakeL.nil | (apply TakeL.cons; · repeat (first | exact Take1.head | apply Take1.tail)))) (fun w hw => rows_any (tabI xs) (tabI_bytes xs) htl w hw.left.here) rfl ?_
    rintro ⟨x20, rs, ok⟩ hR
    dsimp only at hR
    obtain ⟨rfl, rfl⟩ := hR.tab (tab_rows hG)
    try dsimp only [List.cons_append, List.nil_append]
    refine WL.y (Yl.move rfl) rfl ?_
    refine WL.y (Yl.extract rfl rfl) rfl ?_
    refine WL.y (Yl.extract rfl rfl) rfl ?_
    refine WL.y (Yl.assign rfl) rfl ?_
    refine WL.y (Yl.assign rfl) rfl ?_
    refine WL.nil ?_
    refine WC.seq ?_
    refine WC.region ?_
    refine WL.y (Yl.move rfl) rfl ?_
    refine WL.callC (xs := [.tmp 24]) (cap := []) rfl rfl en14 (by repeat (first | exact TakeL.nil | (apply TakeL.cons; · repeat (first | exact Take1.head | apply Take1.tail)))) (fun w hw => val_any (.slice al xs.length cl) xs hG (by omega) w hw.left.here) rfl ?_
    rintro ⟨v2, o2⟩ -
    try dsimp only
    refine WL.view (fun w h => OK.toKy (A := []) (k := .u8) (own := fun _ => False) h (peerR_ky w) (fun _ h => h.elim)) ?_
    refine WL.callC (xs := [.tmp 25, .func 24]) (cap := []) rfl rfl en23 (by repeat (first | exact TakeL.nil | (apply TakeL.cons; · repeat (first | exact Take1.head | apply Take1.tail)))) (fun w hw => byB_any 48 [.pointer (some ⟨v2, 0, none⟩)] o2 xs hG (by omega) en48 24 [] (fun _ => False) (fun r => r.peer) (fun x hx => wf8 hx.peer) en24 w hw.left.here) rfl ?_
    rintro ⟨y1, y2, o3⟩ -
    try dsimp only
    refine WL.callC (xs := [.tmp 26, _]) (cap := []) rfl rfl en22 (by repeat (first | exact TakeL.nil | (apply TakeL.cons; · repeat (first | exact Take1.head | apply Take1.tail)))) (fun w hw => sumsB_any 65 [.pointer (some ⟨y1, 0, none⟩), .pointer (some ⟨y2, 0, none⟩)] o3 (byV (fun r => r.peer) xs) (fun p hp => (byV_u8 hG p hp).2.ol) (by omega) en65 1000 (by decide) w hw.left.here) rfl ?_
    rintro ⟨⟨ak, ck⟩, ⟨az, cz⟩⟩ -
    unfold smRB
    rw [List.take_of_length_le (show (byV (fun r : Rc => r.peer) xs).length ≤ 1000 by omega)]
    have hrl : (rwK xs).length = (byV (fun r : Rc => r.peer) xs).length := List.length_map _
    try dsimp only [List.cons_append, List.nil_append]
    refine WL.y (Yl.move rfl) rfl ?_
    refine WL.y (Yl.extract rfl rfl) rfl ?_
    refine WL.y (Yl.extract rfl rfl) rfl ?_
    refine WL.y (Yl.assign rfl) rfl ?_
    refine WL.y (Yl.assign rfl) rfl ?_
    refine WL.nil ?_
    refine WC.seq ?_
    refine WC.seq ?_
    refine WC.region ?_
    refine WL.y (Yl.move rfl) rfl ?_
    refine WL.y (Yl.neq rfl rfl) rfl ?_
    refine WL.know (t := 31) (b' := false) rfl (by first | rfl | (simp; done) | (simp; omega)) ?_
    refine WL.y (Yl.move rfl) rfl ?_
    refine WL.on rfl rfl ?_
    refine WL.y (Yl.move rfl) rfl ?_
    refine WL.on rfl rfl ?_
    refine WL.y (Yl.len un57 rfl) rfl ?_
    refine WL.on rfl rfl ?_
    refine WL.y (Yl.move rfl) rfl ?_
    refine WL.on rfl rfl ?_
    refine WL.y (Yl.len un62 rfl) rfl ?_
    refine WL.on rfl rfl ?_
    refine WL.y (Yl.neq rfl rfl) rfl ?_
    refine WL.know (t := 37) (b' := false) rfl (by rw [hrl]; simp) ?_
    refine WL.y (Yl.pickF rfl rfl) rfl ?_
    refine WL.nil ?_
    refine WC.condF rfl (by first | rfl | (simp; done) | (simp; omega)) ?_
    refine WC.skip ?_
    refine WC.seq ?_
    refine WC.region ?_
    refine WL.y (Yl.assign rfl) rfl ?_
    refine WL.nil ?_
    refine WC.seq ?_
    refine WC.seq ?_
    refine WC.region ?_
    refine WL.y (Yl.move rfl) rfl ?_
    refine WL.y (Yl.len un57 rfl) rfl ?_
    refine WL.y (Yl.move rfl) rfl ?_
    refine WL.nil ?_
    refine WC.block ?_
    refine WC.loop (α := Nat) (fun i => [(0, .slice al xs.length cl), (5, .slice ak (byV (fun r => r.peer) xs).length ck), (6, .slice az (byV (fun r => r.peer) xs).length cz), (7, .int .u64 (cntN (fun r => r.peer) xs i : Int)), (39, rwB x20 (rwK xs)), (40, .int .i64 ((rwK xs).length : Int)), (41, .int .i64 (i : Int))]) (fun _ => [ownR (rwB x20 (rwK xs)) 70 7 (rwK xs).length (vcs rwE (rwK xs)), ownR (.slice ak (byV (fun r => r.peer) xs).length ck) 5 1 (byV (fun r => r.peer) xs).length (ints .u8 ((byV (fun r => r.peer) xs).map (·.1))), ownR (.slice az (byV (fun r => r.peer) xs).length cz) 37 15 (byV (fun r => r.peer) xs).length (vcs smV ((byV (fun r => r.peer) xs).map (·.2)))]) (fun i => i ≤ (rwK xs).length) (fun i => (rwK xs).length - i) 0 (Nat.zero_le _) ⟨(by repeat (first | exact Sub.nil | refine Sub.cons rfl ?_)), _, (by repeat (first | exact TakeL.nil | (apply TakeL.cons; · repeat (first | exact Take1.head | apply Take1.tail))))⟩ ?_
    intro i hi
    try dsimp only at hi
    try dsimp only
    refine WC.seq ?_
    refine WC.region ?_
    refine WL.y (Yl.lss rfl rfl) rfl ?_
    refine WL.nil ?_
    refine WC.seq ?_
    refine WC.condD rfl (fun g42 => ?_) (fun g42 => ?_)
    · refine WC.skip ?_
      refine WC.seq ?_
      refine WC.block ?_
      refine WC.seq ?_
      refine WC.region ?_
      have hil : i < (rwK xs).length := by omega
      obtain ⟨q, hq⟩ : ∃ q, (byV (fun r => r.peer) xs)[i]? = some q := ⟨_, List.getElem?_eq_getElem (by omega)⟩
      obtain ⟨k, hne, rfl⟩ := byV_ne (List.mem_of_getElem? hq)
      have hu := byV_u8 hG _ (List.mem_of_getElem? hq)
      have hk1 : (byK (fun r => r.peer) xs)[i]? = some k := by
        have h0 := hq
        unfold byV at h0
        rw [List.getElem?_map] at h0
        obtain ⟨k', h2, h3⟩ := Option.map_eq_some_iff.1 h0
        cases h3
        exact h2
      obtain ⟨s, hs⟩ : ∃ s, s = sumS (selS (fun r => r.peer) k xs) := ⟨_, rfl⟩
      have hsl := sel_len (fun r : Rc => r.peer) k xs
      have hsn : s.n = ((selS (fun r => r.peer) k xs).length : Int) := by rw [hs]; exact sumS_n (by omega)
      rw [← hs] at hq hu
      have hso := hu.2.ol
      dsimp only at hso
      have h3 : s.oc[3]? = some (s.oc.getD 3 0) := by
        rw [List.getD_eq_getElem?_getD, List.getElem?_eq_getElem (by omega)]
        rfl
      have hrq : (rwK xs)[i]? = some (k, smN s) := by unfold rwK; rw [List.getElem?_map, hq]; rfl
      have hcs := cntN_step hk1
      have hcl2 := cntN_le (fun r : Rc => r.peer) xs (i + 1)
      have hr6 : ∀ r ∈ rwK xs, R6 r := fun r hr => (rwK_good hG r hr).len
      have hfit : Fits1 rwLeaf (rwC k (smN s)) := rw_fits hu.1 rfl (smN_ok hu.2)
      refine WL.y (Yl.move rfl) rfl ?_
      refine WL.y (Yl.index (j := i) un57 sz70 rfl rfl (Reads.of (r := ownR (rwB x20 (rwK xs)) 70 7 (rwK xs).length (vcs rwE (rwK xs))) RdOf.own (by repeat (first | exact Take1.head | apply Take1.tail))) rfl hil) rfl ?_
      refine WL.y (Yl.loadV (j := i) (u := (k, smN s)) vtW hr6 rfl (Reads.of (r := ownR (rwB x20 (rwK xs)) 70 7 (rwK xs).length (vcs rwE (rwK xs))) RdOf.own (by repeat (first | exact Take1.head | apply Take1.tail))) rfl hrq) rfl ?_
      refine WL.to (To.alloc (cs := rwC 0 [0, 0, 0, 0, 0, 0]) zr70 rfl) rfl ?_
      intro b9
      refine WL.y (Yl.assign rfl) rfl ?_
      refine WL.sto (Sto.agg sz70 rfl rfl (by repeat (first | exact Take1.head | apply Take1.tail)) (rwC_ones _ _) (rwC_len (p := k) (l := smN s) rfl) (by rfl) (putAll rfl)) (fun _ h => nomatch h) ?_
      refine WL.nil ?_
      refine WC.seq ?_
      refine WC.region ?_
      refine WL.y (Yl.move rfl) rfl ?_
      refine WL.y (Yl.move rfl) rfl ?_
      refine WL.y (Yl.index (j := i) un49 sz37 rfl rfl (Reads.of (r := ownR (.slice az (byV (fun r => r.peer) xs).length cz) 37 15 (byV (fun r => r.peer) xs).length (vcs smV ((byV (fun r => r.peer) xs).map (·.2)))) RdOf.own (by repeat (first | exact Take1.head | apply Take1.tail))) rfl (by omega)) rfl ?_
      refine WL.y (Yl.loadV (j := i) (u := s) vtSB (fun s hs => by obtain ⟨p, hp, rfl⟩ := List.mem_map.1 hs; exact (byV_u8 hG p hp).2.ol) rfl (Reads.of (r := ownR (.slice az (byV (fun r => r.peer) xs).length cz) 37 15 (byV (fun r => r.peer) xs).length (vcs smV ((byV (fun r => r.peer) xs).map (·.2)))) RdOf.own (by repeat (first | exact Take1.head | apply Take1.tail))) (List.length_map _) (by rw [List.getElem?_map, hq]; rfl)) rfl ?_
      refine WL.to (To.alloc (cs := Sm.zero.cells) zr37 rfl) rfl ?_
      intro b10
      refine WL.sto (Sto.agg sz37 rfl rfl (by repeat (first | exact Take1.head | apply Take1.tail)) (Sm.ones _) (Sm.cells_len hso) (by rfl) (putAll rfl)) (fun _ h => nomatch h) ?_
      refine WL.nil ?_
      refine WC.seq ?_
      refine WC.seq ?_
      refine WC.drawRead mixed (by kernel_rfl) ?_
      refine WH.y (Yl.loadN ag70 rfl (by repeat (first | exact Take1.head | apply Take1.tail)) (leBl (by rw [rwC_len (p := k) (l := smN s) rfl]; omega)) (rwC_call rfl)) rfl ?_
      refine WH.y (Yl.move rfl) rfl ?_
      refine WH.y (Yl.move rfl) rfl ?_
      refine WH.y (Yl.index (j := i) un62 sz5 rfl rfl (Reads.of (r := ownR (.slice ak (byV (fun r => r.peer) xs).length ck) 5 1 (byV (fun r => r.peer) xs).length (ints .u8 ((byV (fun r => r.peer) xs).map (·.1)))) RdOf.own (by repeat (first | exact Take1.head | apply Take1.tail))) rfl (by omega)) rfl ?_
      refine WH.y (Yl.loadE (j := i) (u := .int .u8 k) on5 rfl (Reads.of (r := ownR (.slice ak (byV (fun r => r.peer) xs).length ck) 5 1 (byV (fun r => r.peer) xs).length (ints .u8 ((byV (fun r => r.peer) xs).map (·.1)))) RdOf.own (by repeat (first | exact Take1.head | apply Take1.tail))) (by simp [ints, hq])) rfl ?_
      refine WH.y (Yl.field fo37_0 rfl) rfl ?_
      refine WH.y (Yl.load on34 rfl (by repeat (first | exact Take1.head | apply Take1.tail)) (Sm.g0 s)) rfl ?_
      refine WH.y (Yl.field fo37_1 rfl) rfl ?_
      refine WH.y (Yl.load on34 rfl (by repeat (first | exact Take1.head | apply Take1.tail)) (Sm.g1 s)) rfl ?_
      refine WH.y (Yl.field fo37_2 rfl) rfl ?_
      refine WH.y (Yl.load on34 rfl (by repeat (first | exact Take1.head | apply Take1.tail)) (Sm.g2 s)) rfl ?_
      refine WH.y (Yl.field fo37_4 rfl) rfl ?_
      refine WH.y (Yl.load on34 rfl (by repeat (first | exact Take1.head | apply Take1.tail)) (Sm.g11 hso)) rfl ?_
      refine WH.y (Yl.field fo37_5 rfl) rfl ?_
      refine WH.y (Yl.load on34 rfl (by repeat (first | exact Take1.head | apply Take1.tail)) (Sm.g12 hso)) rfl ?_
      refine WH.y (Yl.field fo37_3 rfl) rfl ?_
      refine WH.y (Yl.indexA (j := 3) un35 sz34 rfl rfl rfl (by omega)) rfl ?_
      refine WH.y (Yl.load on34 rfl (by repeat (first | exact Take1.head | apply Take1.tail)) (Sm.ocAt hso (i := 3) h3 rfl)) rfl ?_
      refine WH.y (Yl.build rfl (cs := rwC k (smN s)) (fun _ => by kernel_rfl)) rfl ?_
      refine WH.y (Yl.neA (xs := rwC k (smN s)) (ys := rwC k (smN s)) flRow rfl rfl hfit hfit) rfl ?_
      refine WH.know (t := 69) (b' := false) rfl (by rw [eqV_self]; rfl) ?_
      refine WH.nil ?_
      refine WC.condF rfl (by first | rfl | (simp; done) | (simp; omega)) ?_
      refine WC.skip ?_
      refine WC.region ?_
      refine WL.y (Yl.move rfl) rfl ?_
      refine WL.y (Yl.field fo70_1 rfl) rfl ?_
      refine WL.y (Yl.load on34 rfl (by repeat (first | exact Take1.head | apply Take1.tail)) (rwC_getD (k := 0) rfl (by decide))) rfl ?_
      refine WL.say (t := 72) (v' := .int .u64 s.n) rfl (by rfl) ?_
      refine WL.y (Yl.add (r := ((cntN (fun r => r.peer) xs (i + 1) : Nat) : Int)) rfl rfl (show IntKind.u64.wrap ((cntN (fun r => r.peer) xs i : Int) + s.n) = _ by rw [IntKind.wrap_u64, hcs, hsn]; omega)) rfl ?_
      refine WL.y (Yl.assign rfl) rfl ?_
      refine WL.nil ?_
      refine WC.region ?_
      refine WL.y (Yl.add rfl rfl (IntWalk.i64_in _ (by omega))) rfl ?_
      refine WL.y (Yl.move rfl) rfl ?_
      refine WL.nil ?_
      exact ⟨rfl, i + 1, by omega, by omega, (by repeat (first | exact Sub.nil | refine Sub.cons rfl ?_)), _, (by repeat (first | exact TakeL.nil | (apply TakeL.cons; · repeat (first | exact Take1.head | apply Take1.tail))))⟩
    · refine WC.exit ?_
      refine WC.seq ?_
      refine WC.region ?_
      obtain rfl : i = (byK (fun r => r.peer) xs).length := by omega
      rw [cntN_all]
      refine WL.y (Yl.move rfl) rfl ?_
      refine WL.y (Yl.move rfl) rfl ?_
      refine WL.y (Yl.len un33 rfl) rfl ?_
      refine WL.y (Yl.conv un3 un34 rfl (show IntKind.u64.wrap (xs.length : Int) = (xs.length : Int) by rw [IntKind.wrap_u64]; omega)) rfl ?_
      refine WL.y (Yl.eql rfl rfl) rfl ?_
      refine WL.y (Yl.assign rfl) rfl ?_
      refine WL.nil ?_
      refine WC.ret ?_
      repeat (first | (with_reducible refine peelT ?_) | (with_reducible refine peelB ?_) | (with_reducible refine peelTX ?_) | (with_reducible refine peelBX ?_) | (with_reducible refine peelBN ?_) | (with_reducible refine peelBO rfl ?_))
      exact ret1 (.inr rfl) Tryz.results5 rfl fun w' h => ⟨(), trivial, by simp, h.sub (by repeat (first | exact TakeL.nil | (apply TakeL.cons; · repeat (first | exact Take1.head | apply Take1.tail))))⟩
end Go.Proofs.YtbgimajbehodnaaGreatDoor

namespace Go.Proofs.YtbgimajbehodnaaGreatDoor
open Go Go.RowKit
theorem trod_ifc {H : Type} {enc : TypeId × Value → H} {P : Program} {w : World} {base : Nat} {spare : Nat → Bool} {held : Bool} {fuel : Nat} {t : TypeId} {cs : List Value} {x : DataW H × List MemPlace} (ht : isIfcB P t = true) (h : DataW.trod enc P w base spare held fuel t cs = some x) : ∃ v, cs = [v] ∧ (v = .nilIface ∨ ∃ te pe, v = .iface te pe) := by
  obtain ⟨ms, hms⟩ : ∃ ms, P.underlying t = some (.interface ms) := by
    unfold isIfcB at ht
    split at ht
    · rename_i ms h; exact ⟨ms, h⟩
    · cases ht
  cases fuel with
  | zero => simp [DataW.trod] at h
  | succ n =>
    unfold DataW.trod at h
    rw [hms] at h
    match cs, h with
    | [.nilIface], _ => exact ⟨_, rfl, .inl rfl⟩
    | [.iface te pe], _ => exact ⟨_, rfl, .inr ⟨te, pe, rfl⟩⟩
theorem var_ifc {W : World} {nm : String} {g : Nat} {d : DataW Unit} (hg : Tryz.prog.globalNamed nm = some g) (ht : (Tryz.prog.globals[g]?).map (·.type) = some 125) (h : laidMet Tryz.prog [(nm, d)] W) : ∃ v, W.var? Tryz.prog nm = some #[v] ∧ (v = .nilIface ∨ ∃ te pe, v = .iface te pe) := by
  obtain ⟨ps, ⟨g', t', cs, fuel, p, q, hg', ht', hvar, hd, _, _⟩, _⟩ := h
  obtain rfl := Option.some.inj (hg.symm.trans hg')
  obtain rfl := Option.some.inj (ht.symm.trans ht')
  obtain ⟨v, hv, h2⟩ := trod_ifc (by kernel_rfl) hd
  refine ⟨v, ?_, h2⟩
  rw [hvar]
  congr 1
  exact Array.toList_inj.1 hv
theorem var_at {w : World} {nm : String} {g : Nat} {v : Value} {t : TypeId} (hg : Tryz.prog.globalNamed nm = some g) (h : w.heap[g]? = some (.cells #[v] t)) : w.var? Tryz.prog nm = some #[v] := by
  unfold World.var?
  rw [hg, Option.bind_some, h]
theorem max_int {w : World} (h : w.ShapedOpen Tryz.prog) : ∃ m : Int, w.var? Tryz.prog "internal/bytealg.MaxLen" = some #[.int .i64 m] := by
  obtain ⟨cs, hh, hs, _⟩ := h.1 1 #[.int .i64 0] 3 (of_decide_eq_true (by kernel_rfl)) (by kernel_rfl)
  obtain ⟨m, hm⟩ : ∃ m, w.cell? ⟨1, 0, none⟩ = some (.int .i64 m) := cell_of_shapedOpen_int (g := 1) (t := 3) (zero := #[.int .i64 0]) (k := .i64) h (of_decide_eq_true (by kernel_rfl)) (by kernel_rfl) rfl (by kernel_rfl) (by kernel_rfl) (by kernel_rfl)
  refine ⟨m, var_at (t := 3) gn1 ?_⟩
  rw [hh]
  have h1 : 0 < cs.size := by rw [hs]; decide
  have hc : cs[0] = .int .i64 m := by simpa [World.cell?, hh, h1] using hm
  congr 2
  apply Array.ext
  · rw [hs]; rfl
  · intro i h2 h3
    have : i = 0 := by simp at h3; exact h3
    subst this
    exact hc
theorem tab_of {W : World} (h : laidMetH Tryz.prog Rows.reportRowsRow.laid W) : Lib.TabIs Tryz.prog W "internal/strconv.uint64pow10" .u64 Lib.pow10Tab := by
  have h2 := h.filter (fun x => x.1 == "internal/strconv.uint64pow10")
  exact Lib.tabIs_of_head (rest := []) gn0 (by kernel_rfl) (n := 20) (t := 212) (e := 34) (by kernel_rfl) (by kernel_rfl) (by kernel_rfl) (by kernel_rfl) h2
theorem gl_of {W : World} (h : laidMetH Tryz.prog Rows.reportRowsRow.laid W) (hs : W.ShapedOpen Tryz.prog) : glR.ok W := by
  have h2 : laidMet Tryz.prog [("strconv.ErrSyntax", Rows.laid_strconv_ErrSyntax)] W := h.filter (fun x => x.1 == "strconv.ErrSyntax")
  have h3 : laidMet Tryz.prog [("strconv.ErrRange", Rows.laid_strconv_ErrRange)] W := h.filter (fun x => x.1 == "strconv.ErrRange")
  refine ⟨⟨tab_of h, var_ifc gn2 (by kernel_rfl) h2, var_ifc gn3 (by kernel_rfl) h3, max_int hs⟩, ?_⟩
  obtain ⟨v, e, _⟩ := var_ifc gn3 (by kernel_rfl) h3
  unfold World.var? at e
  rw [gn3, Option.bind_some] at e
  rcases Nat.lt_or_ge 3 W.heap.size with h' | h'
  · exact h'
  · rw [Array.getElem?_eq_none h'] at e; cases e
theorem Rc.of_fits {cs : List Value} (h : Fits1 rcLeaf cs) : ∃ r : Rc, r.ok ∧ cs = r.cells := by
  obtain ⟨h1, h2⟩ := Fits1.app (ks := List.replicate 16 (some .u8)) h
  rw [List.length_replicate] at h1 h2
  obtain ⟨id, e1, hl, hb⟩ := fits_bytes h1
  obtain ⟨ds, e2⟩ : ∃ ds, cs.drop 16 = ds := ⟨_, rfl⟩
  rw [e2] at h2
  have hcs : cs = ints .u8 id ++ ds := by rw [← e1, ← e2, List.take_append_drop]
  match ds, h2 with
  | [.int q1 p, .bool o, .int q2 c, .int q3 b, .int q4 a, .int q5 e], h2 =>
    obtain ⟨⟨rfl, w1⟩, _, ⟨rfl, w2⟩, ⟨rfl, w3⟩, ⟨rfl, w4⟩, ⟨rfl, w5⟩, _⟩ := h2
    exact ⟨⟨id, p, o, c, b, a, e⟩, ⟨hl, hb, wf_u8 w1, wf_u8 w2, wf_u64 w3, wf_u64 w4, wf_u64 w5⟩, hcs⟩
section
variable {w : World} {base : Nat} {sp : Nat → Bool} {held : Bool} {H : Type} {enc : TypeId × Value → H}
theorem open_recs {a : Option Addr} {len cap : Nat} {x : DataW H} {p : List MemPlace} (h : DataW.Trod enc Tryz.prog w base sp held 33 (.slice a len cap) x p) : ∃ rs : List Rc, rs.length = len ∧ ROk rs ∧ Rd w 22 (.slice a len cap) len (vcs rcV rs) := by
  obtain ⟨xss, h1, h2, h3⟩ := open_flats (d := 5) (ks := rcLeaf) un33 (by kernel_rfl) (by kernel_rfl) h
  have : ∃ rs : List Rc, xss = rs.map Rc.cells ∧ ROk rs := by
    clear h1 h3
    induction xss with
    | nil => exact ⟨[], rfl, fun x hx => nomatch hx⟩
    | cons ys xss ih =>
      obtain ⟨rs, rfl, hrs⟩ := ih (fun zs hz => h2 zs (by simp [hz]))
      obtain ⟨r, hr, rfl⟩ := Rc.of_fits (h2 ys (by simp)).1
      exact ⟨r :: rs, rfl, fun z hz => by
        rcases List.mem_cons.1 hz with rfl | hz
        · exact hr
        · exact hrs z hz⟩
  obtain ⟨rs, rfl, hrs⟩ := this
  refine ⟨rs, by simpa using h1, hrs, ?_⟩
  have e1 : (rs.map Rc.cells).flatten = vcs rcV rs := by
    clear h1 h2 h3 hrs
    induction rs with
    | nil => rfl
    | cons y ys ih => rw [List.map_cons, List.flatten_cons, ih, vcs_cons]; simp [rcV, Value.cells]
  rwa [e1] at h3
end
end Go.Proofs.YtbgimajbehodnaaGreatDoor
