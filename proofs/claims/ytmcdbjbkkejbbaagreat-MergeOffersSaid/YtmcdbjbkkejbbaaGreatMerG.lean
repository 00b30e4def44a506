/- Books of many: one view: the walk. -/
import Derived.Test.YtmcdbjbkkejbbaaGreatMerF
namespace Go.Proofs.YtmcdbjbkkejbbaaGreat
open Go Go.RowKit
/-- Many that are only read, as one. -/
def bunR (A : List Res) : Res where
  fp := (fpL A).rd
  wr := noB
  sub := fun _ h => h.elim
  ok := fun w => ∀ r ∈ A, r.ok w
  lt := fun w h k ⟨r, hr, hk⟩ => r.lt w (h r hr) k hk
  st := fun w w' D h hc hd r hr => r.st w w' D (h r hr) hc fun k hk => hd k ⟨r, hr, hk⟩
theorem OK.pick {w0 : World} {S : Pm} {H F A B : List Res} {w : World} (h : OK w0 S H w) (t : Take1 H (bunR A) F) (hs : ∀ r ∈ B, r ∈ A) : OK w0 S (bunR B :: H) w := by
  have h1 := h.dup t (fun _ h => h)
  refine ⟨h1.chg, ?_, ?_, ?_, ?_⟩
  · intro r hr
    rcases List.mem_cons.1 hr with rfl | hr
    · have := h1.all (bunR A) (List.mem_cons_self ..)
      exact fun s hs2 => this s (hs s hs2)
    · exact h.all r hr
  · intro r hr
    rcases List.mem_cons.1 hr with rfl | hr
    · exact fun k hk => hk.elim
    · exact h.loc r hr
  · intro r hr
    rcases List.mem_cons.1 hr with rfl | hr
    · rintro k ⟨s, hs2, hk⟩ hlt
      exact h1.locF (bunR A) (List.mem_cons_self ..) k ⟨s, hs s hs2, hk⟩ hlt
    · exact h.locF r hr
  · have hd := List.pairwise_cons.1 h1.dis
    refine List.pairwise_cons.2 ⟨fun s hs2 => ⟨fun k hk => hk.elim, ?_⟩, hd.2⟩
    rintro k ⟨q, hq, hk⟩ hk2
    exact (hd.1 s hs2).2 k ⟨q, hs q hq, hk⟩ hk2
/-- A bundle, taken apart. -/
theorem OK.unbun {w0 : World} {S : Pm} {H F A : List Res} {w : World} (h : OK w0 S H w) (t : Take1 H (bunR A) F) : OK w0 S (A.map roR ++ F) w := by
  have h1 := h.perm t.perm
  refine ⟨h1.chg, ?_, ?_, ?_, ?_⟩
  · intro r hr
    rcases List.mem_append.1 hr with hr | hr
    · obtain ⟨s, hs, rfl⟩ := List.mem_map.1 hr
      exact h1.all (bunR A) (List.mem_cons_self ..) s hs
    · exact h1.all r (List.mem_cons_of_mem _ hr)
  · intro r hr
    rcases List.mem_append.1 hr with hr | hr
    · obtain ⟨s, hs, rfl⟩ := List.mem_map.1 hr
      exact fun k hk => hk.elim
    · exact h1.loc r (List.mem_cons_of_mem _ hr)
  · intro r hr
    rcases List.mem_append.1 hr with hr | hr
    · obtain ⟨s, hs, rfl⟩ := List.mem_map.1 hr
      exact fun k hk hlt => h1.locF (bunR A) (List.mem_cons_self ..) k ⟨s, hs, hk⟩ hlt
    · exact h1.locF r (List.mem_cons_of_mem _ hr)
  · have hd := List.pairwise_cons.1 h1.dis
    refine List.pairwise_append.2 ⟨?_, hd.2, ?_⟩
    · refine List.pairwise_map.2 (List.pairwise_of_forall fun a b => ⟨fun k hk => hk.elim, fun k _ hk => hk.elim⟩)
    · intro a ha b hb
      obtain ⟨s, hs, rfl⟩ := List.mem_map.1 ha
      exact ⟨fun k hk => hk.elim, fun k hk hk2 => (hd.1 b hb).2 k ⟨s, hs, hk⟩ hk2⟩
/-- Those that are only read, bundled. -/
theorem OK.bun {w0 : World} {S : Pm} {F A : List Res} {w : World} (h : OK w0 S (A.map roR ++ F) w) : OK w0 S (bunR A :: F) w := by
  obtain ⟨_, _, hd3⟩ := List.pairwise_append.1 h.dis
  refine ⟨h.chg, ?_, ?_, ?_, ?_⟩
  · intro r hr
    rcases List.mem_cons.1 hr with rfl | hr
    · exact fun s hs => h.all (roR s) (List.mem_append_left _ (List.mem_map.2 ⟨s, hs, rfl⟩))
    · exact h.all r (List.mem_append_right _ hr)
  · intro r hr
    rcases List.mem_cons.1 hr with rfl | hr
    · exact fun k hk => hk.elim
    · exact h.loc r (List.mem_append_right _ hr)
  · intro r hr
    rcases List.mem_cons.1 hr with rfl | hr
    · rintro k ⟨s, hs, hk⟩ hlt
      exact h.locF (roR s) (List.mem_append_left _ (List.mem_map.2 ⟨s, hs, rfl⟩)) k hk hlt
    · exact h.locF r (List.mem_append_right _ hr)
  · refine List.pairwise_cons.2 ⟨fun s hs => ⟨fun k hk => hk.elim, ?_⟩, (List.pairwise_append.1 h.dis).2.1⟩
    rintro k ⟨q, hq, hk⟩ hk2
    exact (hd3 (roR q) (List.mem_map.2 ⟨q, hq, rfl⟩) s hs).2 k hk hk2
theorem OK.bun2 {w0 : World} {S : Pm} {H F A B : List Res} {w : World} (h : OK w0 S H w) (t : TakeL H [bunR A, bunR B] F) : OK w0 S (bunR (A ++ B) :: F) w := by
  have h1 := h.perm t.perm
  have h2 := (OK.unbun h1 (A := A) (F := bunR B :: F) .head)
  have h3 : OK w0 S (bunR B :: (A.map roR ++ F)) w := h2.perm List.perm_middle
  have h4 := OK.unbun h3 (A := B) (F := A.map roR ++ F) .head
  refine OK.bun ?_
  rw [List.map_append, List.append_assoc]
  refine h4.perm ?_
  rw [← List.append_assoc, ← List.append_assoc]
  exact List.perm_append_comm.append_right F
theorem Fn.imp {P : Program} {f : FuncId} {vs : List Value} {A A' : List Res} {w : World} {α : Type} {Φ : α → Prop} {v : α → Value} {B : α → List Res} (hi : OK w (fpL A) A w → OK w (fpL A') A' w) (hwr : ∀ k, (fpL A').wr k → (fpL A).wr k) (hrd : ∀ k, (fpL A').rd k → (fpL A).rd k)
    (h : OK w (fpL A') A' w → Fn P f vs A' w Φ v B) (hw : OK w (fpL A) A w) : Fn P f vs A w Φ v B :=
  Calls.mono (h (hi hw)) fun e w' ⟨x, h1, h2, h3⟩ => ⟨x, h1, h2, ⟨h3.chg.mono (fun k _ hk => hwr k hk), h3.all, fun r hr k hk hl => hwr k (h3.loc r hr k hk hl), fun r hr k hk hl => hrd k (h3.locF r hr k hk hl), h3.dis⟩⟩
theorem Fn.bun {P : Program} {f : FuncId} {vs : List Value} {A : List Res} {w : World} {α : Type} {Φ : α → Prop} {v : α → Value} {B : α → List Res} (h : OK w (fpL (A.map roR)) (A.map roR) w → Fn P f vs (A.map roR) w Φ v B) (hw : OK w (fpL [bunR A]) [bunR A] w) : Fn P f vs [bunR A] w Φ v B := by
  refine Fn.imp (fun hw => ?_) ?_ ?_ h hw
  · have := OK.unbun hw (A := A) (F := []) .head
    rw [List.append_nil] at this
    exact this.here
  · rintro k ⟨r, hr, hk⟩
    obtain ⟨s, hs, rfl⟩ := List.mem_map.1 hr
    exact hk.elim
  · rintro k ⟨r, hr, hk⟩
    obtain ⟨s, hs, rfl⟩ := List.mem_map.1 hr
    exact ⟨bunR A, List.mem_singleton.2 rfl, s, hs, hk⟩
/-- A book in memory, or none. -/
structure Bt where
  b : Nat
  ao : Option Addr
  ca : Nat
  l : List Rc
def btV : Option Bt → Value
  | none => .pointer none
  | some k => .pointer (some ⟨k.b, 0, none⟩)
def btR : Option Bt → List Res
  | none => []
  | some k => bkR k.b k.ao k.ca k.l
def btL : Option Bt → List Rc
  | none => []
  | some k => k.l
def btsR (bs : List (Option Bt)) : List Res := bs.flatMap btR
theorem btsR_mem {bs : List (Option Bt)} {i : Nat} {k : Option Bt} (h : bs[i]? = some k) : ∀ r ∈ btR k, r ∈ btsR bs := fun r hr => List.mem_flatMap.2 ⟨k, List.mem_of_getElem? h, hr⟩
theorem allP_any (k : Option Bt) (hG : ROk (btL k)) (hl : (btL k).length ≤ 1000000) (w : World) (hw : OK w (fpL [bunR (btR k)]) [bunR (btR k)] w) :
    Fn Tryz.prog 8 [btV k] [bunR (btR k)] w (fun _ : Nat × (Nat → Prop) => True) (fun y => .func (.func 52) #[] #[.pointer (some ⟨y.1, 0, none⟩)]) (fun y => [itR Tryz.prog 52 [.pointer (some ⟨y.1, 0, none⟩)] y.2 (ysR (btL k))]) := by
  cases k with
  | none => exact Fn.bun (fun hw => allNil_any w hw) hw
  | some k => exact Fn.bun (fun hw => allM_any k.b k.ao k.ca k.l hG hl w hw) hw
theorem findP_any (k : Option Bt) (hG : ROk (btL k)) (hl : (btL k).length ≤ 1000000) (id : List Int) (hid : id.length = 16) (hib : Bytes id) (w : World) (hw : OK w (fpL [bunR (btR k)]) [bunR (btR k)] w) :
    Fn Tryz.prog 45 [btV k, .agg (ints .u8 id).toArray] [bunR (btR k)] w (fun _ : Unit => True) (fun _ => .tuple #[.agg ((findF (btL k) id).getD Rc.zero).cells.toArray, .bool (findF (btL k) id).isSome]) (fun _ => []) := by
  cases k with
  | none => exact Fn.bun (fun hw => findNil_any id hid hib w hw) hw
  | some k => exact Fn.bun (fun hw => findM_any k.b k.ao k.ca k.l hG hl id hid hib w hw) hw
def bestF (ls : List (List Rc)) : List Rc := ls.foldl (fun m l => (joinF m l).1) []
theorem best_app (ls : List (List Rc)) (l : List Rc) : bestF (ls ++ [l]) = (joinF (bestF ls) l).1 := by unfold bestF; rw [List.foldl_append]; rfl
theorem best_flat : ∀ (ls : List (List Rc)) (m : List Rc), ls.foldl (fun m l => (joinF m l).1) m = (joinF m ls.flatten).1
  | [], m => rfl
  | l :: ls, m => by rw [List.foldl_cons, best_flat ls, List.flatten_cons, join_app]
theorem bestF_is (ls : List (List Rc)) : bestF ls = (joinF [] ls.flatten).1 := best_flat ls []
theorem bestF_book {ls : List (List Rc)} (h : ∀ l ∈ ls, ROk l) : Book (bestF ls) := by
  rw [bestF_is]
  exact Book.nil.join fun r hr => by
    obtain ⟨l, hl, hr⟩ := List.mem_flatten.1 hr
    exact h l hl r hr
theorem bestF_len (ls : List (List Rc)) : (bestF ls).length ≤ ls.flatten.length := by
  rw [bestF_is]
  simpa using (join_len ls.flatten []).1
theorem lsFlat_take {ls : List (List Rc)} (k : Nat) : (ls.take k).flatten.length ≤ ls.flatten.length := by
  have h : (ls.take k).flatten ++ (ls.drop k).flatten = ls.flatten := by rw [← List.flatten_append, List.take_append_drop]
  rw [← h, List.length_append]
  omega
theorem flat_mem {ls : List (List Rc)} {l : List Rc} (h : l ∈ ls) : l.length ≤ ls.flatten.length := by
  obtain ⟨i, hi⟩ := List.mem_iff_getElem?.1 h
  have e : ls.flatten = (ls.take i).flatten ++ (l ++ (ls.drop (i + 1)).flatten) := by
    rw [← List.flatten_cons, ← List.flatten_append]
    congr 1
    have hd : ls.drop i = l :: ls.drop (i + 1) := by rw [List.drop_eq_getElem?_toList_append, hi]; rfl
    rw [← hd, List.take_append_drop]
  rw [e, List.length_append, List.length_append]
  omega
theorem Rc.cells_set {r : Rc} (h : r.id.length = 16) (a e : Int) : (r.cells.set 19 (.int .u64 a)).set 21 (.int .u64 e) = ({ r with bg := a, en := e } : Rc).cells := by
  unfold Rc.cells
  have hl : (ints .u8 r.id).length = 16 := by rw [ints_length, h]
  simp [List.set_append, hl]
theorem widF_snoc (r : Rc) (ls : List (List Rc)) (l : List Rc) : widF r (ls ++ [l]) = wid1 (widF r ls) l := by unfold widF; rw [List.foldl_append]; rfl
theorem wid1_some {r x : Rc} {l : List Rc} (h : findF l r.id = some x) : wid1 r l = { r with bg := if x.bg < r.bg then x.bg else r.bg, en := if r.en < x.en then x.en else r.en } := by
  unfold findF at h
  unfold wid1
  rw [h]
theorem wid1_none {r : Rc} {l : List Rc} (h : findF l r.id = none) : wid1 r l = r := by
  unfold findF at h
  unfold wid1
  rw [h]
def viewN (best : List Rc) (ls : List (List Rc)) (i : Nat) : List Rc := (best.take i).foldl (fun out r => insF out (widF r ls)) []
theorem viewN_next {best : List Rc} {ls : List (List Rc)} {i : Nat} {x : Rc} (h : best[i]? = some x) : viewN best ls (i + 1) = insF (viewN best ls i) (widF x ls) := by
  unfold viewN
  rw [← take_snoc _ _ _ h, List.foldl_append]
  rfl
theorem viewN_all (best : List Rc) (ls : List (List Rc)) : viewN best ls best.length = viewF best ls := by unfold viewN viewF; rw [List.take_length]
theorem viewN_ord {best : List Rc} {ls : List (List Rc)} (hb : Book best) (hl : ∀ l ∈ ls, ∀ x ∈ l, x.ok) (i : Nat) : Ordl (viewN best ls i) ∧ (viewN best ls i).length ≤ best.length := by
  obtain ⟨h1, h2⟩ := view_ord hl Ordl.nil (rs := best.take i) (fun r hr => (hb.bk r (List.mem_of_mem_take hr)).ok) (hb.ids.sublist (List.take_sublist _ _)) (fun x hx => nomatch hx)
  refine ⟨h1, ?_⟩
  unfold viewN
  rw [h2, List.length_take]
  simp
  omega
theorem btV_one (k : Option Bt) : (btV k).oneCell' = true := by cases k <;> rfl
set_option maxRecDepth 100000 in
theorem view_any (v : Value) (bs : List (Option Bt)) (ls : List (List Rc)) (hls : bs.map btL = ls) (hG : ∀ l ∈ ls, ROk l) (hl : ls.flatten.length ≤ 2000) (hn : bs.length ≤ 1000) (w : World) (hw : OK w (fpL [rdR v 1 bs.length (bs.map btV), bunR (btsR bs)]) [rdR v 1 bs.length (bs.map btV), bunR (btsR bs)] w) :
    Fn Tryz.prog 20 [v] [rdR v 1 bs.length (bs.map btV), bunR (btsR bs)] w (fun _ : Option Addr × Nat => True) (fun y => .slice y.1 (viewF (bestF ls) ls).length y.2) (fun y => [ownR (.slice y.1 (viewF (bestF ls) ls).length y.2) 33 22 (viewF (bestF ls) ls).length (vcs rcV (viewF (bestF ls) ls))]) := by
  obtain ⟨al, cl, rfl, hcl, hml⟩ := (hw.get .head : Rd _ _ _ _ _).form
  have hlen : ls.length = bs.length := by rw [← hls, List.length_map]
  have hbk := bestF_book hG
  have hbl := bestF_len ls
  have hat : ∀ {i : Nat} {k : Option Bt}, bs[i]? = some k → ls[i]? = some (btL k) := fun h => by rw [← hls, List.getElem?_map, h]; rfl
  have hpre : ∀ i, Book (bestF (ls.take i)) ∧ (bestF (ls.take i)).length ≤ 2000 := fun i => ⟨bestF_book fun l h => hG l (List.mem_of_mem_take h), Nat.le_trans (bestF_len _) (Nat.le_trans (lsFlat_take i) hl)⟩
  refine enterM Tryz.func20 rfl Tryz.ntmps20 rfl hw ?_
  refine WC.seq ?_
  refine WC.region ?_
  refine WL.to (To.box rfl rfl) rfl ?_ -- t1
  intro b1
  refine WL.y (Yl.assign rfl) rfl ?_ -- t2
  refine WL.nil ?_
  refine WC.seq ?_
  refine WC.region ?_
  refine WL.callC (xs := []) (cap := []) rfl rfl en25 (by repeat (first | exact TakeL.nil | (apply TakeL.cons; · repeat (first | exact Take1.head | apply Take1.tail)))) (fun w hw => newM_any w hw.left.here) rfl ?_ -- t12 hailer/merge.New
  rintro bn -
  dsimp only [bkR, List.cons_append, List.nil_append]
  refine WL.y (Yl.assign rfl) rfl ?_ -- t3
  refine WL.nil ?_
  refine WC.seq ?_
  refine WC.seq ?_
  refine WC.region ?_
  refine WL.y (Yl.load on85 rfl (by repeat (first | exact Take1.head | apply Take1.tail)) (by rfl)) rfl ?_ -- t13
  refine WL.y (Yl.len un85 rfl) rfl ?_ -- t14
  refine WL.y (Yl.move rfl) rfl ?_ -- t15
  refine WL.nil ?_
  refine WC.block ?_
  refine WC.loop (α := Nat × (Option Addr × Nat)) (fun s => [(1, .pointer (some ⟨b1, 0, none⟩)), (2, .slice none 0 0), (3, .pointer (some ⟨bn, 0, none⟩)), (13, .slice al bs.length cl), (14, .int .i64 (bs.length : Int)), (15, .int .i64 (s.1 : Int))]) (fun s => [blkR b1 85 [.slice al bs.length cl], rdR (.slice al bs.length cl) 1 bs.length (bs.map btV), bunR (btsR bs), blkR bn 64 [.slice s.2.1 (bestF (ls.take s.1)).length s.2.2], ownR (.slice s.2.1 (bestF (ls.take s.1)).length s.2.2) 33 22 (bestF (ls.take s.1)).length (vcs rcV (bestF (ls.take s.1)))]) (fun s => s.1 ≤ bs.length) (fun s => bs.length - s.1) (0, (none, 0)) (Nat.zero_le _) ⟨(by repeat (first | exact Sub.nil | refine Sub.cons rfl ?_)), _, (by repeat (first | exact TakeL.nil | (apply TakeL.cons; · repeat (first | exact Take1.head | apply Take1.tail))))⟩ ?_
  rintro ⟨i, ao, ca⟩ hi
  dsimp only at hi ⊢
  obtain ⟨hp1, hp2⟩ := hpre i
  refine WC.seq ?_
  refine WC.region ?_
  refine WL.y (Yl.lss rfl rfl) rfl ?_ -- t16
  refine WL.nil ?_
  refine WC.seq ?_
  refine WC.condD rfl (fun g16 => ?_) (fun g16 => ?_)
  · refine WC.skip ?_
    refine WC.seq ?_
    refine WC.block ?_
    refine WC.seq ?_
    refine WC.region ?_
    have hil : i < bs.length := by omega
    obtain ⟨k, hk⟩ : ∃ k, bs[i]? = some k := ⟨_, List.getElem?_eq_getElem hil⟩
    have hkl := hat hk
    have hkg := hG _ (List.mem_of_getElem? hkl)
    have hkn := flat_mem (List.mem_of_getElem? hkl)
    have hnx : bestF (ls.take (i + 1)) = (joinF (bestF (ls.take i)) (btL k)).1 := by rw [← take_snoc _ _ _ hkl, best_app]
    refine WL.y (Yl.index un85 sz26 rfl rfl (Reads.of (r := rdR (.slice al bs.length cl) 1 bs.length (bs.map btV)) RdOf.rd' (by repeat (first | exact Take1.head | apply Take1.tail))) rfl (by omega)) rfl ?_ -- t17
    refine WL.y (Yl.loadE on26 rfl (Reads.of (r := rdR (.slice al bs.length cl) 1 bs.length (bs.map btV)) RdOf.rd' (by repeat (first | exact Take1.head | apply Take1.tail))) (u := btV k) (by simp [hk])) rfl ?_
    refine WL.y (Yl.assign rfl) rfl ?_ -- t5
    refine WL.nil ?_
    refine WC.view (fun w h => h.pick (A := btsR bs) (B := btR k) (by repeat (first | exact Take1.head | apply Take1.tail)) (btsR_mem hk)) ?_
    refine WC.region ?_
    refine WL.y (Yl.move rfl) rfl ?_ -- t19
    refine WL.y (Yl.move rfl) rfl ?_ -- t20
    refine WL.callC (xs := [.tmp 20]) (cap := []) rfl rfl en8 (by repeat (first | exact TakeL.nil | (apply TakeL.cons; · repeat (first | exact Take1.head | apply Take1.tail)))) (fun w hw => allP_any k hkg (by omega) w hw.left.here) rfl ?_ -- t21 (*hailer/merge.Book).All
    rintro ⟨y1, own⟩ -
    dsimp only [List.cons_append, List.nil_append]
    refine WL.callC (xs := [.tmp 19, .tmp 21]) (cap := []) rfl rfl en23 (by repeat (first | exact TakeL.nil | (apply TakeL.cons; · repeat (first | exact Take1.head | apply Take1.tail)))) (fun w hw => join_any bn ao ca (bestF (ls.take i)) 52 [.pointer (some ⟨y1, 0, none⟩)] own (btL k) en52 hp1 hkg (by omega) w hw.left.here) rfl ?_ -- t22 (*hailer/merge.Book).Join
    rintro ⟨ao2, ca2⟩ -
    rw [← hnx]
    dsimp only [bkR, List.cons_append, List.nil_append]
    refine WL.nil ?_
    refine WC.region ?_
    refine WL.y (Yl.add rfl rfl (IntWalk.i64_in _ (by omega))) rfl ?_ -- t23
    refine WL.y (Yl.move rfl) rfl ?_ -- t15
    refine WL.nil ?_
    exact ⟨rfl, (i + 1, ao2, ca2), by dsimp only; omega, by dsimp only; omega, (by repeat (first | exact Sub.nil | refine Sub.cons rfl ?_)), _, (by repeat (first | exact TakeL.nil | (apply TakeL.cons; · repeat (first | exact Take1.head | apply Take1.tail))))⟩
  · refine WC.exit ?_
    refine WC.seq ?_
    have hil : i = bs.length := by omega
    subst hil
    rw [← hlen, List.take_length, hlen]
    refine WC.view (fun w h => h.roOne (r := blkR bn 64 [.slice ao (bestF ls).length ca]) (by repeat (first | exact Take1.head | apply Take1.tail))) ?_
    refine WC.view (fun w h => h.roOne (r := ownR (.slice ao (bestF ls).length ca) 33 22 (bestF ls).length (vcs rcV (bestF ls))) (by repeat (first | exact Take1.head | apply Take1.tail))) ?_
    refine WC.region ?_
    refine WL.to (To.alloc (cs := [.slice none 0 0]) zr22 rfl) rfl ?_ -- t6
    intro b6
    refine WL.nil ?_
    refine WC.seq ?_
    refine WC.seq ?_
    refine WC.region ?_
    refine WL.y (Yl.move rfl) rfl ?_ -- t24
    refine WL.callC (xs := [.tmp 24]) (cap := []) rfl rfl en8 (by repeat (first | exact TakeL.nil | (apply TakeL.cons; · repeat (first | exact Take1.head | apply Take1.tail)))) (fun w hw => allM_any bn ao ca (bestF ls) (fun x hx => (hbk.bk x hx).ok) (by omega) w hw.left.here) rfl ?_ -- t25 (*hailer/merge.Book).All
    rintro ⟨y2, own2⟩ -
    dsimp only [List.cons_append, List.nil_append]
    refine WL.nil ?_
    refine WC.block ?_
    refine WC.view (fun w h => h.addNil 33 22) ?_
    refine WC.range (α := Option Addr × Nat) (xs := ysR (bestF ls)) (fun i s => [blkR b6 22 [.slice s.1 (viewN (bestF ls) ls i).length s.2], ownR (.slice s.1 (viewN (bestF ls) ls i).length s.2) 33 22 (viewN (bestF ls) ls i).length (vcs rcV (viewN (bestF ls) ls i)), blkR b1 85 [.slice al bs.length cl], rdR (.slice al bs.length cl) 1 bs.length (bs.map btV), bunR (btsR bs)]) (fun _ _ => True) (none, 0) rfl en52 ysR_size rfl (by repeat (first | exact Take1.head | apply Take1.tail)) trivial (by repeat (first | exact TakeL.nil | (apply TakeL.cons; · repeat (first | exact Take1.head | apply Take1.tail)))) ?_ ?_
    · rintro l2 i x ⟨ao3, ca3⟩ hx - W
      obtain ⟨x, hx0, rfl⟩ := ysR_at hx
      have hxo : x.ok := (hbk.bk x (List.mem_of_getElem? hx0)).ok
      have h22 := Rc.cells_len hxo.len
      obtain ⟨ho1, ho2⟩ := viewN_ord (ls := ls) hbk hG i
      have hnx := viewN_next (ls := ls) hx0
      dsimp only
      show WC _ _ _ ((26, .agg x.cells.toArray) :: _) _ _
      refine WC.region ?_
      refine WL.to (To.alloc (cs := Rc.zero.cells) zr33 rfl) rfl ?_ -- t7
      intro b7
      refine WL.sto (Sto.agg sz33 rfl rfl (by repeat (first | exact Take1.head | apply Take1.tail)) (Rc.ones _) h22 (by rfl) (Rc.all (r := Rc.zero) rfl x.cells h22)) (fun _ h => nomatch h) ?_ -- st 1
      refine WL.nil ?_
      repeat (first | (with_reducible refine peelT ?_) | (with_reducible refine peelB ?_) | (with_reducible refine peelTX ?_) | (with_reducible refine peelBX ?_) | (with_reducible refine peelBN ?_) | (with_reducible refine peelBO rfl ?_))
      refine fun W2 => ?_
      refine WC.block ?_
      refine WC.seq ?_
      refine WC.seq ?_
      refine WC.region ?_
      refine WL.y (Yl.load on85 rfl (by repeat (first | exact Take1.head | apply Take1.tail)) (by rfl)) rfl ?_ -- t27
      refine WL.y (Yl.len un85 rfl) rfl ?_ -- t28
      refine WL.y (Yl.move rfl) rfl ?_ -- t29
      refine WL.nil ?_
      refine WC.block ?_
      refine WC.loop (α := Nat) (fun j => [(1, .pointer (some ⟨b1, 0, none⟩)), (3, .pointer (some ⟨bn, 0, none⟩)), (6, .pointer (some ⟨b6, 0, none⟩)), (7, .pointer (some ⟨b7, 0, none⟩)), (27, .slice al bs.length cl), (28, .int .i64 (bs.length : Int)), (29, .int .i64 (j : Int))]) (fun j => [blkR b7 33 (widF x (ls.take j)).cells, blkR b6 22 [.slice ao3 (viewN (bestF ls) ls i).length ca3], ownR (.slice ao3 (viewN (bestF ls) ls i).length ca3) 33 22 (viewN (bestF ls) ls i).length (vcs rcV (viewN (bestF ls) ls i)), blkR b1 85 [.slice al bs.length cl], rdR (.slice al bs.length cl) 1 bs.length (bs.map btV), bunR (btsR bs)]) (fun j => j ≤ bs.length) (fun j => bs.length - j) 0 (Nat.zero_le _) ⟨(by repeat (first | exact Sub.nil | refine Sub.cons rfl ?_)), _, (by repeat (first | exact TakeL.nil | (apply TakeL.cons; · repeat (first | exact Take1.head | apply Take1.tail))))⟩ ?_
      intro j hj
      obtain ⟨r, hr⟩ : ∃ r, widF x (ls.take j) = r := ⟨_, rfl⟩
      have hro : r.ok := by rw [← hr]; exact widF_ok (fun l h => hG l (List.mem_of_mem_take h)) hxo
      have hr22 := Rc.cells_len hro.len
      rw [hr]
      refine WC.seq ?_
      refine WC.region ?_
      refine WL.y (Yl.lss rfl rfl) rfl ?_ -- t30
      refine WL.nil ?_
      refine WC.seq ?_
      refine WC.condD rfl (fun g30 => ?_) (fun g30 => ?_)
      · refine WC.skip ?_
        refine WC.seq ?_
        refine WC.block ?_
        refine WC.seq ?_
        refine WC.region ?_
        have hjl : j < bs.length := by omega
        obtain ⟨k, hk⟩ : ∃ k, bs[j]? = some k := ⟨_, List.getElem?_eq_getElem hjl⟩
        have hkl := hat hk
        have hkg := hG _ (List.mem_of_getElem? hkl)
        have hkn := flat_mem (List.mem_of_getElem? hkl)
        have hwn : widF x (ls.take (j + 1)) = wid1 r (btL k) := by rw [← take_snoc _ _ _ hkl, widF_snoc, hr]
        have hfo : ((findF (btL k) r.id).getD Rc.zero).id.length = 16 := by
          cases hf : findF (btL k) r.id with
          | none => rfl
          | some y => exact (hkg y (List.mem_of_find?_eq_some hf)).len
        have hf22 := Rc.cells_len hfo
        refine WL.y (Yl.index un85 sz26 rfl rfl (Reads.of (r := rdR (.slice al bs.length cl) 1 bs.length (bs.map btV)) RdOf.rd' (by repeat (first | exact Take1.head | apply Take1.tail))) rfl (by omega)) rfl ?_ -- t31
        refine WL.y (Yl.loadE on26 rfl (Reads.of (r := rdR (.slice al bs.length cl) 1 bs.length (bs.map btV)) RdOf.rd' (by repeat (first | exact Take1.head | apply Take1.tail))) (u := btV k) (by simp [hk])) rfl ?_
        refine WL.y (Yl.assign rfl) rfl ?_ -- t9
        refine WL.nil ?_
        refine WC.seq ?_
        refine WC.view (fun w h => h.pick (A := btsR bs) (B := btR k) (by repeat (first | exact Take1.head | apply Take1.tail)) (btsR_mem hk)) ?_
        refine WC.region ?_
        refine WL.y (Yl.move rfl) rfl ?_ -- t34
        refine WL.y (Yl.field fo33_0 rfl) rfl ?_ -- t35
        refine WL.y (Yl.loadN ag30 rfl (by repeat (first | exact Take1.head | apply Take1.tail)) (leB (by rw [hr22]; omega)) (Rc.cid hro.len)) rfl ?_ -- t36
        refine WL.callC (xs := [.tmp 34, .tmp 36]) (cap := []) rfl rfl en45 (by repeat (first | exact TakeL.nil | (apply TakeL.cons; · repeat (first | exact Take1.head | apply Take1.tail)))) (fun w hw => findP_any k hkg (by omega) r.id hro.len hro.id w hw.left.here) rfl ?_ -- t37 (*hailer/merge.Book).Find
        rintro ⟨⟩ -
        dsimp only [List.cons_append, List.nil_append]
        refine WL.y (Yl.move rfl) rfl ?_ -- t33
        refine WL.y (Yl.extract rfl rfl) rfl ?_ -- t38
        refine WL.y (Yl.extract rfl rfl) rfl ?_ -- t39
        refine WL.to (To.alloc (cs := Rc.zero.cells) zr33 rfl) rfl ?_ -- t10
        intro b10
        refine WL.sto (Sto.agg sz33 rfl rfl (by repeat (first | exact Take1.head | apply Take1.tail)) (Rc.ones _) hf22 (by rfl) (Rc.all (r := Rc.zero) rfl ((findF (btL k) r.id).getD Rc.zero).cells hf22)) (fun _ h => nomatch h) ?_ -- st 2
        refine WL.y (Yl.assign rfl) rfl ?_ -- t11
        refine WL.nil ?_
        refine WC.seq ?_
        refine WC.region ?_
        refine WL.y (Yl.move rfl) rfl ?_ -- t40
        refine WL.nil ?_
        refine WC.cond rfl (fun g40 => ?_) (fun g40 => ?_)
        · refine WC.drawAny (Hs := [blkR b10 33 ((findF (btL k) r.id).getD Rc.zero).cells]) mixed (by kernel_rfl) ⟨_, (by repeat (first | exact TakeL.nil | (apply TakeL.cons; · repeat (first | exact Take1.head | apply Take1.tail))))⟩ ?_
          refine WD.take 0 rfl (by kernel_rfl) (by kernel_rfl) (by kernel_rfl) rfl rfl (Yl.field fo33_4 rfl) rfl ?_ -- t41
          refine WD.take 2 rfl (by kernel_rfl) (by kernel_rfl) (by kernel_rfl) rfl rfl (Yl.field fo33_4 rfl) rfl ?_ -- t43
          refine WD.take 3 rfl (by kernel_rfl) (by kernel_rfl) (by kernel_rfl) rfl rfl (Yl.load on31 rfl (by repeat (first | exact Take1.head | apply Take1.tail)) (Rc.c19 hfo)) rfl ?_ -- t44
          refine WD.take 5 rfl (by kernel_rfl) (by kernel_rfl) (by kernel_rfl) rfl rfl (Yl.field fo33_6 rfl) rfl ?_ -- t46
          refine WD.take 7 rfl (by kernel_rfl) (by kernel_rfl) (by kernel_rfl) rfl rfl (Yl.field fo33_6 rfl) rfl ?_ -- t48
          refine WD.take 8 rfl (by kernel_rfl) (by kernel_rfl) (by kernel_rfl) rfl rfl (Yl.load on31 rfl (by repeat (first | exact Take1.head | apply Take1.tail)) (Rc.c21 hfo)) rfl ?_ -- t49
          refine WD.two 1 6 (by kernel_rfl) ?_ ?_
          · refine WO.y rfl rfl .no (Yl.load on31 rfl (by repeat (first | exact Take1.head | apply Take1.tail)) (Rc.c19 hro.len)) rfl ?_ -- t42
            refine WD.take 4 rfl (by kernel_rfl) (by kernel_rfl) (by kernel_rfl) rfl rfl (Yl.min2 rfl rfl) rfl ?_
            refine WD.one 6 (by kernel_rfl) ?_
            refine WO.y rfl rfl .no (Yl.load on31 rfl (by repeat (first | exact Take1.head | apply Take1.tail)) (Rc.c21 hro.len)) rfl ?_ -- t47
            refine WD.take 9 rfl (by kernel_rfl) (by kernel_rfl) (by kernel_rfl) rfl rfl (Yl.max2 rfl rfl) rfl ?_
            refine WD.take 10 rfl (by kernel_rfl) (by kernel_rfl) (by kernel_rfl) rfl rfl (Yl.field fo33_4 rfl) rfl ?_ -- t51
            refine WD.one 11 (by kernel_rfl) ?_
            refine WO.sto rfl rfl .no (Sto.one sz31 rfl rfl (by repeat (first | exact Take1.head | apply Take1.tail)) rfl (leB (show 20 ≤ _ by rw [hr22]; omega)) (by rfl)) ⟨_, (by repeat (first | exact TakeL.nil | (apply TakeL.cons; · repeat (first | exact Take1.head | apply Take1.tail))))⟩ ?_
            refine WD.take 12 rfl (by kernel_rfl) (by kernel_rfl) (by kernel_rfl) rfl rfl (Yl.field fo33_6 rfl) rfl ?_ -- t52
            refine WD.one 13 (by kernel_rfl) ?_
            refine WO.sto rfl rfl .no (Sto.one sz31 rfl rfl (by repeat (first | exact Take1.head | apply Take1.tail)) rfl (leB (show 22 ≤ _ by rw [List.length_set, hr22]; omega)) (by rfl)) ⟨_, (by repeat (first | exact TakeL.nil | (apply TakeL.cons; · repeat (first | exact Take1.head | apply Take1.tail))))⟩ ?_
            refine WD.done (by kernel_rfl) ?_
            refine WC.region ?_
            refine WL.y (Yl.add rfl rfl (IntWalk.i64_in _ (by omega))) rfl ?_ -- t53
            refine WL.y (Yl.move rfl) rfl ?_ -- t29
            refine WL.nil ?_
            obtain ⟨y, hy⟩ := Option.isSome_iff_exists.1 g40
            rw [hy] at hf22 ⊢
            have he := Rc.cells_set hro.len (if y.bg < r.bg then y.bg else r.bg) (if r.en < y.en then y.en else r.en)
            rw [← wid1_some hy, ← hwn] at he
            exact ⟨rfl, j + 1, by omega, by omega, (by repeat (first | exact Sub.nil | refine Sub.cons rfl ?_)), _, by rw [← he]; exact (by repeat (first | exact TakeL.nil | (apply TakeL.cons; · repeat (first | exact Take1.head | apply Take1.tail))))⟩
          · refine WO.y rfl rfl .no (Yl.load on31 rfl (by repeat (first | exact Take1.head | apply Take1.tail)) (Rc.c21 hro.len)) rfl ?_ -- t47
            refine WD.take 9 rfl (by kernel_rfl) (by kernel_rfl) (by kernel_rfl) rfl rfl (Yl.max2 rfl rfl) rfl ?_
            refine WD.one 1 (by kernel_rfl) ?_
            refine WO.y rfl rfl .no (Yl.load on31 rfl (by repeat (first | exact Take1.head | apply Take1.tail)) (Rc.c19 hro.len)) rfl ?_ -- t42
            refine WD.take 4 rfl (by kernel_rfl) (by kernel_rfl) (by kernel_rfl) rfl rfl (Yl.min2 rfl rfl) rfl ?_
            refine WD.take 10 rfl (by kernel_rfl) (by kernel_rfl) (by kernel_rfl) rfl rfl (Yl.field fo33_4 rfl) rfl ?_ -- t51
            refine WD.one 11 (by kernel_rfl) ?_
            refine WO.sto rfl rfl .no (Sto.one sz31 rfl rfl (by repeat (first | exact Take1.head | apply Take1.tail)) rfl (leB (show 20 ≤ _ by rw [hr22]; omega)) (by rfl)) ⟨_, (by repeat (first | exact TakeL.nil | (apply TakeL.cons; · repeat (first | exact Take1.head | apply Take1.tail))))⟩ ?_
            refine WD.take 12 rfl (by kernel_rfl) (by kernel_rfl) (by kernel_rfl) rfl rfl (Yl.field fo33_6 rfl) rfl ?_ -- t52
            refine WD.one 13 (by kernel_rfl) ?_
            refine WO.sto rfl rfl .no (Sto.one sz31 rfl rfl (by repeat (first | exact Take1.head | apply Take1.tail)) rfl (leB (show 22 ≤ _ by rw [List.length_set, hr22]; omega)) (by rfl)) ⟨_, (by repeat (first | exact TakeL.nil | (apply TakeL.cons; · repeat (first | exact Take1.head | apply Take1.tail))))⟩ ?_
            refine WD.done (by kernel_rfl) ?_
            refine WC.region ?_
            refine WL.y (Yl.add rfl rfl (IntWalk.i64_in _ (by omega))) rfl ?_ -- t53
            refine WL.y (Yl.move rfl) rfl ?_ -- t29
            refine WL.nil ?_
            obtain ⟨y, hy⟩ := Option.isSome_iff_exists.1 g40
            rw [hy] at hf22 ⊢
            have he := Rc.cells_set hro.len (if y.bg < r.bg then y.bg else r.bg) (if r.en < y.en then y.en else r.en)
            rw [← wid1_some hy, ← hwn] at he
            exact ⟨rfl, j + 1, by omega, by omega, (by repeat (first | exact Sub.nil | refine Sub.cons rfl ?_)), _, by rw [← he]; exact (by repeat (first | exact TakeL.nil | (apply TakeL.cons; · repeat (first | exact Take1.head | apply Take1.tail))))⟩
        · refine WC.skip ?_
          refine WC.region ?_
          refine WL.y (Yl.add rfl rfl (IntWalk.i64_in _ (by omega))) rfl ?_ -- t53
          refine WL.y (Yl.move rfl) rfl ?_ -- t29
          refine WL.nil ?_
          have hy : findF (btL k) r.id = none := by simpa using g40
          exact ⟨rfl, j + 1, by omega, by omega, (by repeat (first | exact Sub.nil | refine Sub.cons rfl ?_)), _, by rw [hwn, wid1_none hy]; exact (by repeat (first | exact TakeL.nil | (apply TakeL.cons; · repeat (first | exact Take1.head | apply Take1.tail))))⟩
      · refine WC.exit ?_
        have hjl : j = bs.length := by omega
        subst hjl
        rw [← hlen, List.take_length] at hr
        rw [hr] at hnx
        refine WC.region ?_
        refine WL.y (Yl.load on22 rfl (by repeat (first | exact Take1.head | apply Take1.tail)) (by rfl)) rfl ?_ -- t54
        refine WL.y (Yl.loadN ag33 rfl (by repeat (first | exact Take1.head | apply Take1.tail)) (leB (by rw [hr22]; omega)) (Rc.call hro.len)) rfl ?_ -- t55
        refine WL.callC (xs := [.tmp 54, .tmp 55, .func 47]) (cap := []) rfl rfl en46 (by repeat (first | exact TakeL.nil | (apply TakeL.cons; · repeat (first | exact Take1.head | apply Take1.tail)))) (fun w hw => ordered_any (.slice ao3 (viewN (bestF ls) ls i).length ca3) (viewN (bestF ls) ls i) r (by omega) ho1 hro w (hw.src (A := []) (r := ownR (.slice ao3 (viewN (bestF ls) ls i).length ca3) 33 22 (viewN (bestF ls) ls i).length (vcs rcV (viewN (bestF ls) ls i))) RdOf.own (by repeat (first | exact Take1.head | apply Take1.tail))) hw.left.here) rfl ?_ -- t56 hailer/merge.ordered[hailer/api.Record]
        rintro ⟨ao4, ca4⟩ -
        dsimp only [List.cons_append, List.nil_append]
        refine WL.sto (Sto.one sz22 rfl rfl (by repeat (first | exact Take1.head | apply Take1.tail)) rfl (by rfl) (by rfl)) (fun _ h => nomatch h) ?_ -- st 5
        refine WL.nil ?_
        repeat (first | (with_reducible refine peelT ?_) | (with_reducible refine peelB ?_) | (with_reducible refine peelTX ?_) | (with_reducible refine peelBX ?_) | (with_reducible refine peelBN ?_) | (with_reducible refine peelBO rfl ?_))
        have hil2 := ins_len (viewN (bestF ls) ls i) r
        exact ⟨[blkR b6 22 [.slice ao4 ((viewN (bestF ls) ls i).length + 1) ca4], ownR (.slice ao4 ((viewN (bestF ls) ls i).length + 1) ca4) 33 22 ((viewN (bestF ls) ls i).length + 1) (vcs rcV (insF (viewN (bestF ls) ls i) r)), blkR b1 85 [.slice al bs.length cl], rdR (.slice al bs.length cl) 1 bs.length (bs.map btV), bunR (btsR bs)], _, (by repeat (first | exact TakeL.nil | (apply TakeL.cons; · repeat (first | exact Take1.head | apply Take1.tail)))), (ao4, ca4), trivial, by rw [hnx, hil2]⟩
    · rintro ⟨ao3, ca3⟩ D -
      rw [ysR_len, viewN_all]
      dsimp only [List.cons_append, List.nil_append]
      refine WC.seq ?_
      refine WC.region ?_
      refine WL.y (Yl.load on22 rfl (by repeat (first | exact Take1.head | apply Take1.tail)) (by rfl)) rfl ?_ -- t57
      refine WL.y (Yl.assign rfl) rfl ?_ -- t2
      refine WL.nil ?_
      refine WC.ret ?_
      repeat (first | (with_reducible refine peelT ?_) | (with_reducible refine peelB ?_) | (with_reducible refine peelTX ?_) | (with_reducible refine peelBX ?_) | (with_reducible refine peelBN ?_) | (with_reducible refine peelBO rfl ?_))
      refine retM.of (.cons (by repeat (first | exact Take1.head | apply Take1.tail)) .nil) ?_
      exact ret1 (.inr rfl) Tryz.results20 rfl fun w' h => ⟨(ao3, ca3), trivial, rfl, h.sub (by repeat (first | exact TakeL.nil | (apply TakeL.cons; · repeat (first | exact Take1.head | apply Take1.tail))))⟩
/-- Slices of slices, by their lengths. -/
def totN (ns : List Nat) : Nat := ns.sum
theorem heavy_any (v : Value) (vs : List (Option Addr × Nat × Nat)) (hn : vs.length ≤ 10000) (hl : ∀ y ∈ vs, y.2.1 ≤ 281474976710656) (w : World) (hx : RdS w (fpL []) v 1 vs.length (vs.map fun y => .slice y.1 y.2.1 y.2.2)) (hw : OK w (fpL []) [] w) :
    Fn Tryz.prog 5 [v] [] w (fun _ : Unit => True) (fun _ => .bool (decide (200 < (vs.map fun y => y.2.1).sum))) (fun _ => []) := by
  obtain ⟨al, cl, rfl, hcl, hml⟩ := hx.rd.form
  have hsum : ∀ (i : Nat), i ≤ vs.length → ((vs.take i).map fun y => y.2.1).sum ≤ i * 281474976710656 := by
    intro i
    induction i with
    | zero => intro _; simp
    | succ i ih =>
      intro h
      obtain ⟨y, hy⟩ : ∃ y, vs[i]? = some y := ⟨_, List.getElem?_eq_getElem (by omega)⟩
      have h1 := ih (by omega)
      have h2 := hl y (List.mem_of_getElem? hy)
      rw [← take_snoc _ _ _ hy, List.map_append, List.sum_append]
      simp only [List.map_cons, List.map_nil, List.sum_cons, List.sum_nil]
      omega
  refine enterF Tryz.func5 rfl Tryz.ntmps5 rfl hw ?_
  refine WC.seq ?_
  refine WC.region ?_
  refine WL.y (Yl.assign rfl) rfl ?_ -- t2
  refine WL.nil ?_
  refine WC.seq ?_
  refine WC.region ?_
  refine WL.y (Yl.assign rfl) rfl ?_ -- t3
  refine WL.nil ?_
  refine WC.seq ?_
  refine WC.seq ?_
  refine WC.region ?_
  refine WL.y (Yl.move rfl) rfl ?_ -- t6
  refine WL.y (Yl.len un60 rfl) rfl ?_ -- t7
  refine WL.y (Yl.move rfl) rfl ?_ -- t8
  refine WL.nil ?_
  refine WC.block ?_
  refine WC.loop (α := Nat) (fun i => [(3, .int .i64 ((((vs.take i).map fun y => y.2.1).sum : Nat) : Int)), (6, .slice al vs.length cl), (7, .int .i64 (vs.length : Int)), (8, .int .i64 (i : Int))]) (fun _ => []) (fun i => i ≤ vs.length) (fun i => vs.length - i) 0 (Nat.zero_le _) ⟨(by repeat (first | exact Sub.nil | refine Sub.cons rfl ?_)), _, (by repeat (first | exact TakeL.nil | (apply TakeL.cons; · repeat (first | exact Take1.head | apply Take1.tail))))⟩ ?_
  intro i hi
  have hs := hsum i hi
  refine WC.seq ?_
  refine WC.region ?_
  refine WL.y (Yl.lss rfl rfl) rfl ?_ -- t9
  refine WL.nil ?_
  refine WC.seq ?_
  refine WC.condD rfl (fun g9 => ?_) (fun g9 => ?_)
  · refine WC.skip ?_
    refine WC.seq ?_
    refine WC.block ?_
    refine WC.seq ?_
    refine WC.region ?_
    have hil : i < vs.length := by omega
    obtain ⟨y, hy⟩ : ∃ y, vs[i]? = some y := ⟨_, List.getElem?_eq_getElem hil⟩
    have hyl := hl y (List.mem_of_getElem? hy)
    have hnx : ((vs.take (i + 1)).map fun y => y.2.1).sum = ((vs.take i).map fun y => y.2.1).sum + y.2.1 := by
      rw [← take_snoc _ _ _ hy, List.map_append, List.sum_append]
      simp
    refine WL.y (Yl.index un60 sz22 rfl rfl (Reads.s hx) rfl (by omega)) rfl ?_ -- t10
    refine WL.y (Yl.loadE on22 rfl (Reads.s hx) (u := .slice y.1 y.2.1 y.2.2) (by simp [hy])) rfl ?_
    refine WL.y (Yl.assign rfl) rfl ?_ -- t5
    refine WL.nil ?_
    refine WC.region ?_
    refine WL.y (Yl.move rfl) rfl ?_ -- t12
    refine WL.y (Yl.move rfl) rfl ?_ -- t13
    refine WL.y (Yl.len un22 rfl) rfl ?_ -- t14
    refine WL.y (Yl.add rfl rfl (IntWalk.i64_in _ (by omega))) rfl ?_ -- t15
    refine WL.say (t := 15) (v' := .int .i64 ((((vs.take (i + 1)).map fun y => y.2.1).sum : Nat) : Int)) rfl (by rw [hnx]; rfl) ?_
    refine WL.y (Yl.assign rfl) rfl ?_ -- t3
    refine WL.nil ?_
    refine WC.region ?_
    refine WL.y (Yl.add rfl rfl (IntWalk.i64_in _ (by omega))) rfl ?_ -- t16
    refine WL.y (Yl.move rfl) rfl ?_ -- t8
    refine WL.nil ?_
    exact ⟨rfl, i + 1, by omega, by omega, (by repeat (first | exact Sub.nil | refine Sub.cons rfl ?_)), _, (by repeat (first | exact TakeL.nil | (apply TakeL.cons; · repeat (first | exact Take1.head | apply Take1.tail))))⟩
  · refine WC.exit ?_
    refine WC.seq ?_
    have hil : i = vs.length := by omega
    subst hil
    rw [List.take_length]
    have e : decide ((((vs.map fun y => y.2.1).sum : Nat) : Int) > 200) = decide (200 < (vs.map fun y => y.2.1).sum) := decide_eq_decide.2 (by omega)
    refine WC.region ?_
    refine WL.y (Yl.move rfl) rfl ?_ -- t17
    refine WL.y (Yl.gtr rfl rfl) rfl ?_ -- t18
    refine WL.y (Yl.assign rfl) rfl ?_ -- t2
    refine WL.nil ?_
    refine WC.ret ?_
    repeat (first | (with_reducible refine peelT ?_) | (with_reducible refine peelB ?_) | (with_reducible refine peelTX ?_) | (with_reducible refine peelBX ?_) | (with_reducible refine peelBN ?_) | (with_reducible refine peelBO rfl ?_))
    exact ret1 (.inr rfl) Tryz.results5 rfl fun w' h => ⟨(), trivial, by rw [e], h.sub (by repeat (first | exact TakeL.nil | (apply TakeL.cons; · repeat (first | exact Take1.head | apply Take1.tail))))⟩
end Go.Proofs.YtmcdbjbkkejbbaaGreat
