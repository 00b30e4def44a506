/- MergeViews: the law. -/
import Derived.Test.YtmcdbjbkkejbbaaMerV
namespace Go.Proofs.Ytmcdbjbkkejbbaa
open Go Go.RowKit
/-- Books, a none behind each. -/
def bksB (Ks : List Bt) : List (Option Bt) := Ks.flatMap fun K => [some K, none]
theorem bksB_snoc (Ks : List Bt) (K : Bt) : bksB (Ks ++ [K]) = bksB Ks ++ [some K, none] := by unfold bksB; rw [List.flatMap_append]; rfl
theorem bksB_len : ∀ Ks : List Bt, (bksB Ks).length = 2 * Ks.length
  | [] => rfl
  | K :: Ks => by
    have := bksB_len Ks
    show (bksB Ks).length + 1 + 1 = 2 * (Ks.length + 1)
    omega
theorem fold_nils {β : Type} (f : β → List Rc → β) (hf : ∀ m, f m [] = m) : ∀ (Ks : List Bt) (m : β), ((bksB Ks).map btL).foldl f m = (Ks.map Bt.l).foldl f m
  | [], _ => rfl
  | K :: Ks, m => by
    show ((bksB Ks).map btL).foldl f (f (f m K.l) []) = (Ks.map Bt.l).foldl f (f m K.l)
    rw [hf, fold_nils f hf Ks]
theorem view_nils (Ks : List Bt) : viewF (bestF ((bksB Ks).map btL)) ((bksB Ks).map btL) = viewF (bestF (Ks.map Bt.l)) (Ks.map Bt.l) := by
  have h1 : bestF ((bksB Ks).map btL) = bestF (Ks.map Bt.l) := fold_nils _ (fun _ => rfl) Ks []
  have h2 : ∀ r, widF r ((bksB Ks).map btL) = widF r (Ks.map Bt.l) := fun r => fold_nils _ (fun _ => rfl) Ks r
  unfold viewF
  rw [h1]
  congr 1
  funext out r
  rw [h2]
theorem flat_nils : ∀ Ks : List Bt, ((bksB Ks).map btL).flatten = (Ks.map Bt.l).flatten
  | [] => rfl
  | K :: Ks => by
    show K.l ++ ([] ++ ((bksB Ks).map btL).flatten) = K.l ++ (Ks.map Bt.l).flatten
    rw [List.nil_append, flat_nils Ks]
theorem btsR_snoc (Ks : List Bt) (K : Bt) : btsR (bksB (Ks ++ [K])) = btsR (bksB Ks) ++ btR (some K) := by
  rw [bksB_snoc]
  unfold btsR
  rw [List.flatMap_append]
  simp [btR]
theorem rwsR_snoc (Qs : List Rw) (Q : Rw) : rwsR (Qs ++ [Q]) = rwsR Qs ++ [rwR Q] := by unfold rwsR; rw [List.map_append]; rfl
/-- A row's book. -/
def rbF (r : Rw) : List Rc := (joinF [] r.l).1
theorem rbF_flat : ∀ ws : List Rw, (ws.map rbF).flatten.length ≤ (ws.map fun r => r.l.length).sum
  | [] => Nat.le_refl _
  | r :: ws => by
    have h1 := rbF_flat ws
    have h2 : (rbF r).length ≤ r.l.length := by
      show (joinF [] r.l).1.length ≤ _
      simpa using (join_len r.l []).1
    simp only [List.map_cons, List.flatten_cons, List.length_append, List.sum_cons]
    omega
theorem sum_mem {ns : List Nat} {n : Nat} (h : n ∈ ns) : n ≤ ns.sum := by
  induction ns with
  | nil => cases h
  | cons m ns ih =>
    rw [List.sum_cons]
    rcases List.mem_cons.1 h with rfl | h
    · omega
    · have := ih h; omega
theorem heavyW_any (v : Value) (ws : List Rw) (hn : ws.length ≤ 10000) (hl : ∀ r ∈ ws, r.l.length ≤ 281474976710656) (w : World) (hx : RdS w (fpL []) v 1 ws.length (ws.map rwV)) (hw : OK w (fpL []) [] w) :
    Fn Try.prog 7 [v] [] w (fun _ : Unit => True) (fun _ => .bool (decide (200 < (ws.map fun r => r.l.length).sum))) (fun _ => []) := by
  have h := heavy_any v (ws.map fun r => (r.ao, r.l.length, r.ca)) (by simpa using hn) (by
    intro y hy
    obtain ⟨r, hr, rfl⟩ := List.mem_map.1 hy
    exact hl r hr) w (by rw [List.length_map, List.map_map]; exact hx) hw
  rw [List.map_map] at h
  exact h
set_option maxRecDepth 100000 in
set_option maxHeartbeats 1000000 in
theorem views_any (v : Value) (ws : List Rw) (hG : ∀ r ∈ ws, ROk r.l ∧ r.l.length ≤ 281474976710656) (hws : ws.length ≤ 281474976710656) (w : World) (hw : OK w (fpL [rdR v 1 ws.length (ws.map rwV), bunR (rwsR ws)]) [rdR v 1 ws.length (ws.map rwV), bunR (rwsR ws)] w) :
    Fn Try.prog 4 [v] [rdR v 1 ws.length (ws.map rwV), bunR (rwsR ws)] w (fun _ : Unit => True) (fun _ => .bool true) (fun _ => []) := by
  obtain ⟨al, cl, rfl, hcl, hml⟩ := (hw.get .head : Rd _ _ _ _ _).form
  refine enterF Try.func4 rfl Try.ntmps4 rfl hw ?_
  refine WC.seq ?_
  refine WC.region ?_
  refine WL.y (Yl.assign rfl) rfl ?_ -- t2
  refine WL.nil ?_
  refine WC.seq ?_
  refine WC.seq ?_
  refine WC.region ?_
  refine WL.callC (xs := []) (cap := []) rfl rfl en6 (by repeat (first | exact TakeL.nil | (apply TakeL.cons; · repeat (first | exact Take1.head | apply Take1.tail)))) (fun w hw => known_any w hw.left.here) rfl ?_ -- t8 hailer/hailerlaw36.known
  rintro ⟨⟩ -
  refine WL.y (Yl.not rfl) rfl ?_ -- t9
  refine WL.know (t := 9) (b' := false) rfl (by first | rfl | (simp; done) | (simp; omega)) ?_
  refine WL.nil ?_
  refine WC.condF rfl (by first | rfl | (simp; done) | (simp; omega)) ?_
  refine WC.skip ?_
  refine WC.seq ?_
  refine WC.seq ?_
  refine WC.region ?_
  refine WL.y (Yl.move rfl) rfl ?_ -- t10
  refine WL.y (Yl.len un56 rfl) rfl ?_ -- t11
  refine WL.y (Yl.gtr rfl rfl) rfl ?_ -- t12
  refine WL.y (Yl.move rfl) rfl ?_ -- t13
  refine WL.both (t := 13) rfl (fun g13 => ?_) (fun g13 => ?_)
  · refine WL.off rfl rfl rfl rfl ?_ -- t14
    refine WL.off rfl rfl rfl rfl ?_ -- t15
    refine WL.y (Yl.pickT rfl rfl) rfl ?_ -- t16
    refine WL.nil ?_
    refine WC.condT rfl (by first | rfl | (simp; done) | (simp; omega)) ?_
    refine WC.seq ?_
    refine WC.region ?_
    refine WL.y (Yl.assign rfl) rfl ?_ -- t2
    refine WL.nil ?_
    refine WC.ret ?_
    repeat (first | (with_reducible refine peelT ?_) | (with_reducible refine peelB ?_) | (with_reducible refine peelTX ?_) | (with_reducible refine peelBX ?_) | (with_reducible refine peelBN ?_) | (with_reducible refine peelBO rfl ?_))
    exact ret1 (.inr rfl) Try.results4 rfl fun w' h => ⟨(), trivial, rfl, h.sub (by repeat (first | exact TakeL.nil | (apply TakeL.cons; · repeat (first | exact Take1.head | apply Take1.tail))))⟩
  · refine WL.on rfl rfl ?_
    refine WL.y (Yl.move rfl) rfl ?_ -- t14
    refine WL.on rfl rfl ?_
    refine WL.callC (xs := [.tmp 14]) (cap := []) rfl rfl en7 (by repeat (first | exact TakeL.nil | (apply TakeL.cons; · repeat (first | exact Take1.head | apply Take1.tail)))) (fun w hw => heavyW_any (.slice al ws.length cl) ws (by have := g13; simp at this; omega) (fun r hr => (hG r hr).2) w (hw.src (A := []) (r := rdR (.slice al ws.length cl) 1 ws.length (ws.map rwV)) RdOf.rd' (by repeat (first | exact Take1.head | apply Take1.tail))) hw.left.here) rfl ?_ -- t15 hailer/hailerlaw36.heavy
    rintro ⟨⟩ -
    refine WL.y (Yl.pickF rfl rfl) rfl ?_ -- t16
    refine WL.nil ?_
    refine WC.cond rfl (fun g16 => ?_) (fun g16 => ?_)
    · refine WC.seq ?_
      refine WC.region ?_
      refine WL.y (Yl.assign rfl) rfl ?_ -- t2
      refine WL.nil ?_
      refine WC.ret ?_
      repeat (first | (with_reducible refine peelT ?_) | (with_reducible refine peelB ?_) | (with_reducible refine peelTX ?_) | (with_reducible refine peelBX ?_) | (with_reducible refine peelBN ?_) | (with_reducible refine peelBO rfl ?_))
      exact ret1 (.inr rfl) Try.results4 rfl fun w' h => ⟨(), trivial, rfl, h.sub (by repeat (first | exact TakeL.nil | (apply TakeL.cons; · repeat (first | exact Take1.head | apply Take1.tail))))⟩
    · refine WC.skip ?_
      refine WC.seq ?_
      have hw5 : ws.length ≤ 5 := by have := g13; simp at this; omega
      have hsm : (ws.map fun r => r.l.length).sum ≤ 200 := by have := g16; simp at this; omega
      obtain ⟨ls, hls⟩ : ∃ ls, ws.map rbF = ls := ⟨_, rfl⟩
      have hlf : ls.flatten.length ≤ 200 := by rw [← hls]; exact Nat.le_trans (rbF_flat ws) hsm
      have hlB : ∀ l ∈ ls, Book l := by
        rw [← hls]
        intro l h
        obtain ⟨r, hr, rfl⟩ := List.mem_map.1 h
        exact Book.nil.join (hG r hr).1
      have hlG : ∀ l ∈ ls, ROk l := fun l h => (hlB l h).rok
      refine WC.region ?_
      refine WL.y (Yl.assign rfl) rfl ?_ -- t3
      refine WL.nil ?_
      refine WC.seq ?_
      refine WC.region ?_
      refine WL.y (Yl.assign rfl) rfl ?_ -- t4
      refine WL.nil ?_
      refine WC.seq ?_
      refine WC.seq ?_
      refine WC.region ?_
      refine WL.y (Yl.move rfl) rfl ?_ -- t17
      refine WL.y (Yl.len un56 rfl) rfl ?_ -- t18
      refine WL.y (Yl.move rfl) rfl ?_ -- t19
      refine WL.nil ?_
      refine WC.block ?_
      refine WC.view (fun w h => h.addNil 25 1) ?_
      refine WC.view (fun w h => h.addNil 22 1) ?_
      refine WC.view (fun w h => OK.bun (A := []) h) ?_
      refine WC.view (fun w h => OK.bun (A := []) h) ?_
      refine WC.loop (α := Nat × List Bt × List Rw × (Option Addr × Nat) × (Option Addr × Nat)) (fun s => [(0, .slice al ws.length cl), (3, .slice s.2.2.2.1.1 (bksB s.2.1).length s.2.2.2.1.2), (4, .slice s.2.2.2.2.1 s.2.2.1.length s.2.2.2.2.2), (17, .slice al ws.length cl), (18, .int .i64 (ws.length : Int)), (19, .int .i64 (s.1 : Int))]) (fun s => [rdR (.slice al ws.length cl) 1 ws.length (ws.map rwV), bunR (rwsR ws), ownR (.slice s.2.2.2.1.1 (bksB s.2.1).length s.2.2.2.1.2) 25 1 (bksB s.2.1).length ((bksB s.2.1).map btV), bunR (btsR (bksB s.2.1)), ownR (.slice s.2.2.2.2.1 s.2.2.1.length s.2.2.2.2.2) 22 1 s.2.2.1.length (s.2.2.1.map rwV), bunR (rwsR s.2.2.1)]) (fun s => s.1 ≤ ws.length ∧ s.2.1.map Bt.l = (ws.take s.1).map rbF ∧ s.2.2.1.map Rw.l = (ws.take s.1).map rbF) (fun s => ws.length - s.1) (0, [], [], (none, 0), (none, 0)) ⟨Nat.zero_le _, rfl, rfl⟩ ⟨(by repeat (first | exact Sub.nil | refine Sub.cons rfl ?_)), _, (by repeat (first | exact TakeL.nil | (apply TakeL.cons; · repeat (first | exact Take1.head | apply Take1.tail))))⟩ ?_
      rintro ⟨i, Ks, Qs, ⟨ao3, c3⟩, ⟨ao4, c4⟩⟩ ⟨hi, hKs, hQs⟩
      dsimp only at hi hKs hQs ⊢
      have hkl : Ks.length = i := by have := congrArg List.length hKs; rw [List.length_map, List.length_map, List.length_take] at this; omega
      have hql : Qs.length = i := by have := congrArg List.length hQs; rw [List.length_map, List.length_map, List.length_take] at this; omega
      have hbl := bksB_len Ks
      refine WC.seq ?_
      refine WC.region ?_
      refine WL.y (Yl.lss rfl rfl) rfl ?_ -- t20
      refine WL.nil ?_
      refine WC.seq ?_
      refine WC.condD rfl (fun g20 => ?_) (fun g20 => ?_)
      · refine WC.skip ?_
        refine WC.seq ?_
        refine WC.block ?_
        refine WC.seq ?_
        refine WC.region ?_
        have hil : i < ws.length := by omega
        obtain ⟨kr, hk⟩ : ∃ k, ws[i]? = some k := ⟨_, List.getElem?_eq_getElem hil⟩
        have hkm := List.mem_of_getElem? hk
        have hkg := (hG kr hkm).1
        have hkn : kr.l.length ≤ 200 := Nat.le_trans (sum_mem (List.mem_map.2 ⟨kr, hkm, rfl⟩)) hsm
        have hko := hlG (rbF kr) (by rw [← hls]; exact List.mem_map.2 ⟨kr, hkm, rfl⟩)
        have hbn : (rbF kr).length ≤ kr.l.length := by
          show (joinF [] kr.l).1.length ≤ _
          simpa using (join_len kr.l []).1
        have htk : (ws.take (i + 1)).map rbF = (ws.take i).map rbF ++ [rbF kr] := by rw [← take_snoc _ _ _ hk, List.map_append]; rfl
        refine WL.y (Yl.index un56 sz22 rfl rfl (Reads.of (r := rdR (.slice al ws.length cl) 1 ws.length (ws.map rwV)) RdOf.rd' (by repeat (first | exact Take1.head | apply Take1.tail))) rfl (by omega)) rfl ?_ -- t21
        refine WL.y (Yl.loadE on22 rfl (Reads.of (r := rdR (.slice al ws.length cl) 1 ws.length (ws.map rwV)) RdOf.rd' (by repeat (first | exact Take1.head | apply Take1.tail))) (u := .slice kr.ao kr.l.length kr.ca) (by simp [hk, rwV])) rfl ?_
        refine WL.y (Yl.assign rfl) rfl ?_ -- t6
        refine WL.nil ?_
        refine WC.seq ?_
        refine WC.region ?_
        refine WL.y (Yl.move rfl) rfl ?_ -- t23
        refine WL.view (fun w h => h.pick1 (A := rwsR ws) (v := .slice kr.ao kr.l.length kr.ca) (by repeat (first | exact Take1.head | apply Take1.tail)) (rwsR_mem hk)) ?_
        refine WL.callC (xs := [.tmp 23]) (cap := []) rfl rfl en23 (by repeat (first | exact TakeL.nil | (apply TakeL.cons; · repeat (first | exact Take1.head | apply Take1.tail)))) (fun w hw => of_any (.slice kr.ao kr.l.length kr.ca) kr.l hkg (by omega) w hw.left.here) rfl ?_ -- t24 hailer/hailerlaw36.of
        rintro ⟨b24, aoB, caB⟩ -
        dsimp only [bkR, List.cons_append, List.nil_append]
        rw [show (joinF [] kr.l).1 = rbF kr from rfl]
        refine WL.view (fun w h => OK.bunO2 (r := blkR b24 72 [.slice aoB (rbF kr).length caB]) (s := ownR (.slice aoB (rbF kr).length caB) 31 22 (rbF kr).length (vcs rcV (rbF kr))) h (by repeat (first | exact TakeL.nil | (apply TakeL.cons; · repeat (first | exact Take1.head | apply Take1.tail))))) ?_
        obtain ⟨K, hK⟩ : ∃ K : Bt, K = ⟨b24, aoB, caB, rbF kr⟩ := ⟨_, rfl⟩
        rw [show [blkR b24 72 [.slice aoB (rbF kr).length caB], ownR (.slice aoB (rbF kr).length caB) 31 22 (rbF kr).length (vcs rcV (rbF kr))] = btR (some K) by rw [hK]; rfl]
        have lK : K.l = rbF kr := by rw [hK]
        have bK : K.b = b24 := by rw [hK]
        rw [← bK]
        refine WL.y (Yl.assign rfl) rfl ?_ -- t7
        refine WL.nil ?_
        refine WC.region ?_
        refine WL.y (Yl.move rfl) rfl ?_ -- t25
        refine WL.y (Yl.move rfl) rfl ?_ -- t26
        refine WL.to (To.buildSlice (vs := [.pointer (some ⟨K.b, 0, none⟩), .pointer none]) un57 zs25 rfl rfl (by simp [Value.cells]) (by decide) (by decide)) rfl ?_ -- t27
        intro b27
        rw [show flat [.pointer (some ⟨K.b, 0, none⟩), .pointer none] = [some K, none].map btV from rfl]
        have hb2 : (bksB (Ks ++ [K])).length = 2 * (i + 1) := by rw [bksB_len, List.length_append, hkl]; rfl
        refine WL.to (To.append sl57 rfl rfl (by repeat (first | exact Take1.head | apply Take1.tail)) (Reads.of (RdOf.blk (size := 1) (n := 2) (cs := [some K, none].map btV) (cs' := [some K, none].map btV) (Nat.le_refl _) (by unfold maxLen; omega) (by simp) rfl) (by repeat (first | exact Take1.head | apply Take1.tail))) (by intro v hv; obtain ⟨k, _, rfl⟩ := List.mem_map.1 hv; exact btV_one k) (show (bksB Ks).length + 2 = (bksB (Ks ++ [K])).length by rw [bksB_snoc, List.length_append]; rfl) (show (bksB Ks).map btV ++ [some K, none].map btV = (bksB (Ks ++ [K])).map btV by rw [bksB_snoc, List.map_append]) (by unfold maxLen; omega) (by omega)) rfl ?_ -- t28
        rintro ⟨⟨ao28, c28⟩, hc28⟩
        dsimp only at hc28 ⊢
        refine WL.y (Yl.move rfl) rfl ?_ -- t29
        refine WL.y (Yl.move rfl) rfl ?_ -- t30
        refine WL.view (fun w h => h.dup (r := bunR (btR (some K))) (by repeat (first | exact Take1.head | apply Take1.tail)) (fun _ h => h)) ?_
        refine WL.callC (xs := [.tmp 30]) (cap := []) rfl rfl en18 (by repeat (first | exact TakeL.nil | (apply TakeL.cons; · repeat (first | exact Take1.head | apply Take1.tail)))) (fun w hw => allP_any (some K) (by dsimp only [btL]; rw [lK]; exact hko) (by dsimp only [btL]; rw [lK]; omega) w hw.left.here) rfl ?_ -- t31 (*hailer/merge.Book).All
        rintro ⟨y31, own31⟩ -
        dsimp only [btL, List.cons_append, List.nil_append]
        refine WL.callC (xs := [.tmp 31]) (cap := []) rfl rfl en17 (by repeat (first | exact TakeL.nil | (apply TakeL.cons; · repeat (first | exact Take1.head | apply Take1.tail)))) (fun w hw => col_any 54 [.pointer (some ⟨y31, 0, none⟩)] own31 K.l (by rw [lK]; exact hko) (by rw [lK]; omega) en54 w hw.left.here) rfl ?_ -- t32 slices.Collect[hailer/api.Record]
        rintro ⟨a32, c32⟩ -
        dsimp only [List.cons_append, List.nil_append]
        refine WL.view (fun w h => h.readOnly (v := .slice a32 K.l.length c32) (by repeat (first | exact Take1.head | apply Take1.tail))) ?_
        refine WL.view (fun w h => h.bunO1 (r := rdR (.slice a32 K.l.length c32) 22 K.l.length (vcs rcV K.l)) (by repeat (first | exact Take1.head | apply Take1.tail))) ?_
        refine WL.view (fun w h => h.bun2 (A := rwsR Qs) (B := [rdR (.slice a32 K.l.length c32) 22 K.l.length (vcs rcV K.l)]) (by repeat (first | exact TakeL.nil | (apply TakeL.cons; · repeat (first | exact Take1.head | apply Take1.tail))))) ?_
        rw [show rwsR Qs ++ [rdR (.slice a32 K.l.length c32) 22 K.l.length (vcs rcV K.l)] = rwsR (Qs ++ [⟨a32, c32, K.l⟩]) from (rwsR_snoc Qs ⟨a32, c32, K.l⟩).symm]
        refine WL.view (fun w h => h.bun2 (A := btsR (bksB Ks)) (B := btR (some K)) (by repeat (first | exact TakeL.nil | (apply TakeL.cons; · repeat (first | exact Take1.head | apply Take1.tail))))) ?_
        rw [← btsR_snoc]
        refine WL.to (To.buildSlice (vs := [.slice a32 K.l.length c32]) un56 zs22 rfl rfl (by simp [Value.cells]) (by decide) (by decide)) rfl ?_ -- t33
        intro b33
        rw [show flat [.slice a32 K.l.length c32] = [(⟨a32, c32, K.l⟩ : Rw)].map rwV from rfl]
        have hq2 : (Qs ++ [(⟨a32, c32, K.l⟩ : Rw)]).length = i + 1 := by simp [hql]
        refine WL.to (To.append sl56 rfl rfl (by repeat (first | exact Take1.head | apply Take1.tail)) (Reads.of (RdOf.blk (size := 1) (n := 1) (cs := [(⟨a32, c32, K.l⟩ : Rw)].map rwV) (cs' := [(⟨a32, c32, K.l⟩ : Rw)].map rwV) (Nat.le_refl _) (by unfold maxLen; omega) (by simp) rfl) (by repeat (first | exact Take1.head | apply Take1.tail))) (by intro v hv; obtain ⟨k, _, rfl⟩ := List.mem_map.1 hv; exact rwV_one k) (show Qs.length + 1 = (Qs ++ [(⟨a32, c32, K.l⟩ : Rw)]).length by simp) (show Qs.map rwV ++ [(⟨a32, c32, K.l⟩ : Rw)].map rwV = (Qs ++ [(⟨a32, c32, K.l⟩ : Rw)]).map rwV by rw [List.map_append]) (by unfold maxLen; omega) (by omega)) rfl ?_ -- t34
        rintro ⟨⟨ao34, c34⟩, hc34⟩
        dsimp only at hc34 ⊢
        refine WL.y (Yl.assign rfl) rfl ?_ -- t3
        refine WL.y (Yl.assign rfl) rfl ?_ -- t4
        refine WL.nil ?_
        refine WC.region ?_
        refine WL.y (Yl.add rfl rfl (IntWalk.i64_in _ (by omega))) rfl ?_ -- t35
        refine WL.y (Yl.move rfl) rfl ?_ -- t19
        refine WL.nil ?_
        exact ⟨rfl, (i + 1, Ks ++ [K], Qs ++ [⟨a32, c32, K.l⟩], (ao28, c28), (ao34, c34)), ⟨by dsimp only; omega, by dsimp only; rw [List.map_append, hKs, htk, ← lK]; rfl, by dsimp only; rw [List.map_append, hQs, htk, ← lK]; rfl⟩, by dsimp only; omega, (by repeat (first | exact Sub.nil | refine Sub.cons rfl ?_)), _, (by repeat (first | exact TakeL.nil | (apply TakeL.cons; · repeat (first | exact Take1.head | apply Take1.tail))))⟩
      · refine WC.exit ?_
        refine WC.seq ?_
        have hil : i = ws.length := by omega
        subst hil
        rw [List.take_length, hls] at hKs hQs
        refine WC.view (fun w h => h.readOnly (v := .slice ao3 (bksB Ks).length c3) (by repeat (first | exact Take1.head | apply Take1.tail))) ?_
        refine WC.view (fun w h => h.readOnly (v := .slice ao4 Qs.length c4) (by repeat (first | exact Take1.head | apply Take1.tail))) ?_
        have hbk := bestF_book hlG
        obtain ⟨hvo, hvl⟩ := viewN_ord (ls := ls) hbk hlG (bestF ls).length
        rw [viewN_all] at hvo hvl
        have hbs := bestF_len ls
        have hvn := view_nils Ks
        rw [hKs] at hvn
        refine WC.region ?_
        refine WL.y (Yl.move rfl) rfl ?_ -- t36
        refine WL.callC (xs := [.tmp 36]) (cap := []) rfl rfl en24 (by repeat (first | exact TakeL.nil | (apply TakeL.cons; · repeat (first | exact Take1.head | apply Take1.tail)))) (fun w hw => view_any (.slice ao3 (bksB Ks).length c3) (bksB Ks) _ rfl (by
          intro l h
          obtain ⟨k, hk, rfl⟩ := List.mem_map.1 h
          obtain ⟨K, hK, hk⟩ := List.mem_flatMap.1 hk
          simp only [List.mem_cons, List.not_mem_nil, or_false] at hk
          rcases hk with rfl | rfl
          · exact hlG _ (by rw [← hKs]; exact List.mem_map.2 ⟨K, hK, rfl⟩)
          · exact fun _ h => nomatch h) (by rw [flat_nils, hKs]; omega) (by omega) w hw.left.here) rfl ?_ -- t37 hailer/merge.View
        rintro ⟨a37, c37⟩ -
        rw [hvn]
        dsimp only [List.cons_append, List.nil_append]
        refine WL.y (Yl.move rfl) rfl ?_ -- t38
        refine WL.callC (xs := [.tmp 38]) (cap := []) rfl rfl en25 (by repeat (first | exact TakeL.nil | (apply TakeL.cons; · repeat (first | exact Take1.head | apply Take1.tail)))) (fun w hw => viewR_any ao4 c4 Qs ls hQs hlB (by omega) (by omega) w hw.left.here) rfl ?_ -- t39 hailer/hailerref36.View
        rintro ⟨a39, c39⟩ -
        obtain ⟨V, hV⟩ : ∃ V, viewF (bestF ls) ls = V := ⟨_, rfl⟩
        rw [hV] at hvo hvl ⊢
        dsimp only [List.cons_append, List.nil_append]
        refine WL.callC (xs := [.tmp 37, .tmp 39]) (cap := []) rfl rfl en16 (by repeat (first | exact TakeL.nil | (apply TakeL.cons; · repeat (first | exact Take1.head | apply Take1.tail)))) (fun w hw => equalR_any (.slice a37 V.length c37) (.slice a39 V.length c39) V V hvo.ok hvo.ok (by omega) w (hw.src (A := []) (r := ownR (.slice a37 V.length c37) 31 22 V.length (vcs rcV V)) RdOf.own (by repeat (first | exact Take1.head | apply Take1.tail))) (hw.src (A := []) (r := rdR (.slice a39 V.length c39) 22 V.length (vcs rcV V)) RdOf.rd' (by repeat (first | exact Take1.head | apply Take1.tail))) hw.left.here) rfl ?_ -- t40 slices.Equal[[]hailer/api.Record,hailer/api.Record]
        rintro ⟨⟩ -
        refine WL.know (t := 40) (b' := true) rfl (by first | rfl | (simp; done) | (simp; omega)) ?_
        refine WL.y (Yl.assign rfl) rfl ?_ -- t2
        refine WL.nil ?_
        refine WC.ret ?_
        repeat (first | (with_reducible refine peelT ?_) | (with_reducible refine peelB ?_) | (with_reducible refine peelTX ?_) | (with_reducible refine peelBX ?_) | (with_reducible refine peelBN ?_) | (with_reducible refine peelBO rfl ?_))
        exact ret1 (.inr rfl) Try.results4 rfl fun w' h => ⟨(), trivial, rfl, h.sub (by repeat (first | exact TakeL.nil | (apply TakeL.cons; · repeat (first | exact Take1.head | apply Take1.tail))))⟩
end Go.Proofs.Ytmcdbjbkkejbbaa
