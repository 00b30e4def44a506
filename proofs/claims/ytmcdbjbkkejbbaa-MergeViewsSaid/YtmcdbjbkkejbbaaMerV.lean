/- The reference's view: the walk. -/
import Derived.Test.YtmcdbjbkkejbbaaMerW
namespace Go.Proofs.Ytmcdbjbkkejbbaa
open Go Go.RowKit
/-- The best of the lists ahead of one, and of the first of that one. -/
def bkN (ls : List (List Rc)) (i : Nat) (l : List Rc) (k : Nat) : List Rc := (joinF (bestF (ls.take i)) (l.take k)).1
theorem bkN_zero (ls : List (List Rc)) (i : Nat) (l : List Rc) : bkN ls i l 0 = bestF (ls.take i) := by unfold bkN; rw [List.take_zero]; rfl
theorem bkN_next {ls : List (List Rc)} {i : Nat} {l : List Rc} {k : Nat} {x : Rc} (h : l[k]? = some x) : bkN ls i l (k + 1) = (takeF (bkN ls i l k) x).1 := by unfold bkN; rw [← take_snoc _ _ _ h, join_snoc]
theorem bkN_all {ls : List (List Rc)} {i : Nat} {l : List Rc} (h : ls[i]? = some l) : bkN ls i l l.length = bestF (ls.take (i + 1)) := by
  unfold bkN
  rw [List.take_length, ← take_snoc _ _ _ h, best_app]
theorem bkN_book {ls : List (List Rc)} {i : Nat} {l : List Rc} (h : Book (bestF (ls.take i))) (hl : ROk l) (k : Nat) : Book (bkN ls i l k) ∧ (bkN ls i l k).length ≤ (bestF (ls.take i)).length + l.length := by
  refine ⟨h.join fun r hr => hl r (List.mem_of_mem_take hr), ?_⟩
  have := (join_len (l.take k) (bestF (ls.take i))).1
  rw [List.length_take] at this
  unfold bkN
  omega
def stN (r : Rc) (l : List Rc) (k : Nat) : Rc := (l.take k).foldl (step1 r.id) r
theorem stN_next {r : Rc} {l : List Rc} {k : Nat} {x : Rc} (h : l[k]? = some x) : stN r l (k + 1) = step1 r.id (stN r l k) x := by unfold stN; rw [← take_snoc _ _ _ h, List.foldl_append]; rfl
theorem stN_all {r : Rc} {l : List Rc} (h : Book l) : stN r l l.length = wid1 r l := by unfold stN; rw [List.take_length, wid1_fold r h.ids]
theorem step1_ok {id : List Int} {r x : Rc} (hr : r.ok) (hx : x.ok) : (step1 id r x).ok ∧ (step1 id r x).id = r.id := by
  unfold step1
  split
  · refine ⟨⟨hr.len, hr.id, hr.peer, hr.oc, ?_, hr.an, ?_⟩, rfl⟩
    · show U64 (if x.bg < r.bg then x.bg else r.bg)
      split
      · exact hx.bg
      · exact hr.bg
    · show U64 (if r.en < x.en then x.en else r.en)
      split
      · exact hx.en
      · exact hr.en
  · exact ⟨hr, rfl⟩
theorem foldl_step {id : List Int} : ∀ {l : List Rc} {r : Rc}, r.ok → ROk l → (l.foldl (step1 id) r).ok ∧ (l.foldl (step1 id) r).id = r.id
  | [], _, hr, _ => ⟨hr, rfl⟩
  | x :: l, r, hr, hl => by
    obtain ⟨h1, h2⟩ := step1_ok (id := id) hr (hl x (by simp))
    obtain ⟨h3, h4⟩ := foldl_step (id := id) (l := l) h1 (fun y hy => hl y (by simp [hy]))
    exact ⟨h3, h4.trans h2⟩
theorem stN_ok {r : Rc} {l : List Rc} (hr : r.ok) (hl : ROk l) (k : Nat) : (stN r l k).ok ∧ (stN r l k).id = r.id := foldl_step hr fun x hx => hl x (List.mem_of_mem_take hx)
/-- Its two halves. -/
def bgF (q y : Rc) : Rc := if y.id = q.id ∧ y.bg < q.bg then { q with bg := y.bg } else q
def enF (q y : Rc) : Rc := if y.id = q.id ∧ q.en < y.en then { q with en := y.en } else q
theorem step1_two (q y : Rc) : step1 q.id q y = enF (bgF q y) y := by
  unfold step1 bgF enF
  by_cases h : y.id = q.id
  · by_cases h1 : y.bg < q.bg
    · by_cases h2 : q.en < y.en
      · simp [h, h1, h2]
      · simp [h, h1, h2]
    · by_cases h2 : q.en < y.en
      · simp [h, h1, h2]
      · simp [h, h1, h2]
  · simp [h]
theorem Rc.cells_bg {r : Rc} (h : r.id.length = 16) (a : Int) : r.cells.set 19 (.int .u64 a) = ({ r with bg := a } : Rc).cells := by
  unfold Rc.cells
  have hl : (ints .u8 r.id).length = 16 := by rw [ints_length, h]
  simp [List.set_append, hl]
theorem Rc.cells_en {r : Rc} (h : r.id.length = 16) (a : Int) : r.cells.set 21 (.int .u64 a) = ({ r with en := a } : Rc).cells := by
  unfold Rc.cells
  have hl : (ints .u8 r.id).length = 16 := by rw [ints_length, h]
  simp [List.set_append, hl]
theorem bgF_ok {q y : Rc} (hq : q.ok) (hy : y.ok) : (bgF q y).ok ∧ (bgF q y).id = q.id := by
  unfold bgF
  split
  · exact ⟨⟨hq.len, hq.id, hq.peer, hq.oc, hy.bg, hq.an, hq.en⟩, rfl⟩
  · exact ⟨hq, rfl⟩
set_option maxRecDepth 100000 in
set_option maxHeartbeats 1000000 in
theorem viewR_any (al : Option Addr) (cl : Nat) (ws : List Rw) (ls : List (List Rc)) (hls : ws.map Rw.l = ls) (hB : ∀ l ∈ ls, Book l) (hl : ls.flatten.length ≤ 2000) (hn : ws.length ≤ 1000) (w : World) (hw : OK w (fpL [rdR (.slice al ws.length cl) 1 ws.length (ws.map rwV), bunR (rwsR ws)]) [rdR (.slice al ws.length cl) 1 ws.length (ws.map rwV), bunR (rwsR ws)] w) :
    Fn Try.prog 25 [.slice al ws.length cl] [rdR (.slice al ws.length cl) 1 ws.length (ws.map rwV), bunR (rwsR ws)] w (fun _ : Option Addr × Nat => True) (fun y => .slice y.1 (viewF (bestF ls) ls).length y.2) (fun y => [rdR (.slice y.1 (viewF (bestF ls) ls).length y.2) 22 (viewF (bestF ls) ls).length (vcs rcV (viewF (bestF ls) ls))]) := by
  obtain ⟨_, _, he, hcl, hml⟩ := (hw.get .head : Rd _ _ _ _ _).form
  cases he
  have hlen : ls.length = ws.length := by rw [← hls, List.length_map]
  have hG : ∀ l ∈ ls, ROk l := fun l h => (hB l h).rok
  have hbk := bestF_book hG
  have hbl := bestF_len ls
  have hat : ∀ {i : Nat} {k : Rw}, ws[i]? = some k → ls[i]? = some k.l := fun h => by rw [← hls, List.getElem?_map, h]; rfl
  have hpre : ∀ i, Book (bestF (ls.take i)) ∧ (bestF (ls.take i)).length ≤ 2000 := fun i => ⟨bestF_book fun l h => hG l (List.mem_of_mem_take h), Nat.le_trans (bestF_len _) (Nat.le_trans (lsFlat_take i) hl)⟩
  refine enterF Try.func25 rfl Try.ntmps25 rfl hw ?_
  refine WC.seq ?_
  refine WC.region ?_
  refine WL.y (Yl.assign rfl) rfl ?_ -- t2
  refine WL.nil ?_
  refine WC.seq ?_
  refine WC.region ?_
  refine WL.y (Yl.assign rfl) rfl ?_ -- t3
  refine WL.nil ?_
  refine WC.seq ?_
  refine WC.seq ?_
  refine WC.region ?_
  refine WL.y (Yl.assign rfl) rfl ?_ -- t4
  refine WL.nil ?_
  refine WC.block ?_
  refine WC.view (fun w h => (h.addNil 31 22).readOnly (v := .slice none 0 0) .head) ?_
  refine WC.loop (α := Nat × (Option Addr × Nat)) (fun s => [(0, .slice al ws.length cl), (3, .slice s.2.1 (bestF (ls.take s.1)).length s.2.2), (4, .int .i64 (s.1 : Int))]) (fun s => [rdR (.slice al ws.length cl) 1 ws.length (ws.map rwV), bunR (rwsR ws), rdR (.slice s.2.1 (bestF (ls.take s.1)).length s.2.2) 22 (bestF (ls.take s.1)).length (vcs rcV (bestF (ls.take s.1)))]) (fun s => s.1 ≤ ws.length) (fun s => ws.length - s.1) (0, (none, 0)) (Nat.zero_le _) ⟨(by repeat (first | exact Sub.nil | refine Sub.cons rfl ?_)), _, (by repeat (first | exact TakeL.nil | (apply TakeL.cons; · repeat (first | exact Take1.head | apply Take1.tail))))⟩ ?_
  rintro ⟨i, ao, ca⟩ hi
  dsimp only at hi ⊢
  obtain ⟨hp1, hp2⟩ := hpre i
  refine WC.seq ?_
  refine WC.seq ?_
  refine WC.region ?_
  refine WL.y (Yl.move rfl) rfl ?_ -- t12
  refine WL.y (Yl.move rfl) rfl ?_ -- t13
  refine WL.y (Yl.len un56 rfl) rfl ?_ -- t14
  refine WL.y (Yl.lss rfl rfl) rfl ?_ -- t15
  refine WL.nil ?_
  refine WC.condD rfl (fun g15 => ?_) (fun g15 => ?_)
  · refine WC.skip ?_
    refine WC.seq ?_
    refine WC.block ?_
    refine WC.seq ?_
    have hil : i < ws.length := by omega
    obtain ⟨kr, hk⟩ : ∃ k, ws[i]? = some k := ⟨_, List.getElem?_eq_getElem hil⟩
    have hkl := hat hk
    have hkg := hG _ (List.mem_of_getElem? hkl)
    have hkn := flat_mem (List.mem_of_getElem? hkl)
    refine WC.region ?_
    refine WL.y (Yl.assign rfl) rfl ?_ -- t5
    refine WL.nil ?_
    refine WC.block ?_
    rw [← bkN_zero ls i kr.l]
    refine WC.loop (α := Nat × (Option Addr × Nat)) (fun s => [(0, .slice al ws.length cl), (3, .slice s.2.1 (bkN ls i kr.l s.1).length s.2.2), (4, .int .i64 (i : Int)), (5, .int .i64 (s.1 : Int))]) (fun s => [rdR (.slice al ws.length cl) 1 ws.length (ws.map rwV), bunR (rwsR ws), rdR (.slice s.2.1 (bkN ls i kr.l s.1).length s.2.2) 22 (bkN ls i kr.l s.1).length (vcs rcV (bkN ls i kr.l s.1))]) (fun s => s.1 ≤ kr.l.length) (fun s => kr.l.length - s.1) (0, (ao, ca)) (Nat.zero_le _) ⟨(by repeat (first | exact Sub.nil | refine Sub.cons rfl ?_)), _, (by repeat (first | exact TakeL.nil | (apply TakeL.cons; · repeat (first | exact Take1.head | apply Take1.tail))))⟩ ?_
    rintro ⟨k, ao2, ca2⟩ hkk
    dsimp only at hkk ⊢
    obtain ⟨hq1, hq2⟩ := bkN_book hp1 hkg k
    refine WC.seq ?_
    refine WC.seq ?_
    refine WC.region ?_
    refine WL.y (Yl.move rfl) rfl ?_ -- t18
    refine WL.y (Yl.move rfl) rfl ?_ -- t19
    refine WL.y (Yl.move rfl) rfl ?_ -- t20
    refine WL.y (Yl.index un56 sz22 rfl rfl (Reads.of (r := rdR (.slice al ws.length cl) 1 ws.length (ws.map rwV)) RdOf.rd' (by repeat (first | exact Take1.head | apply Take1.tail))) rfl (by omega)) rfl ?_ -- t21
    refine WL.y (Yl.loadE on22 rfl (Reads.of (r := rdR (.slice al ws.length cl) 1 ws.length (ws.map rwV)) RdOf.rd' (by repeat (first | exact Take1.head | apply Take1.tail))) (u := .slice kr.ao kr.l.length kr.ca) (by simp [hk, rwV])) rfl ?_
    refine WL.y (Yl.len un22 rfl) rfl ?_ -- t23
    refine WL.y (Yl.lss rfl rfl) rfl ?_ -- t24
    refine WL.nil ?_
    refine WC.condD rfl (fun g24 => ?_) (fun g24 => ?_)
    · refine WC.skip ?_
      refine WC.seq ?_
      refine WC.block ?_
      have hkx : k < kr.l.length := by omega
      obtain ⟨x, hxx⟩ : ∃ x, kr.l[k]? = some x := ⟨_, List.getElem?_eq_getElem hkx⟩
      have hxo := hkg.get hxx
      have hnx := bkN_next (ls := ls) (i := i) hxx
      refine WC.region ?_
      refine WL.y (Yl.move rfl) rfl ?_ -- t28
      refine WL.y (Yl.move rfl) rfl ?_ -- t29
      refine WL.y (Yl.move rfl) rfl ?_ -- t30
      refine WL.y (Yl.index un56 sz22 rfl rfl (Reads.of (r := rdR (.slice al ws.length cl) 1 ws.length (ws.map rwV)) RdOf.rd' (by repeat (first | exact Take1.head | apply Take1.tail))) rfl (by omega)) rfl ?_ -- t31
      refine WL.y (Yl.loadE on22 rfl (Reads.of (r := rdR (.slice al ws.length cl) 1 ws.length (ws.map rwV)) RdOf.rd' (by repeat (first | exact Take1.head | apply Take1.tail))) (u := .slice kr.ao kr.l.length kr.ca) (by simp [hk, rwV])) rfl ?_
      refine WL.y (Yl.move rfl) rfl ?_ -- t33
      refine WL.y (Yl.index un22 sz31 rfl rfl (Reads.of (r := bunR (rwsR ws)) (RdOf.row hk) (by repeat (first | exact Take1.head | apply Take1.tail))) rfl (by omega)) rfl ?_ -- t34
      refine WL.y (Yl.loadV (v := .slice kr.ao kr.l.length kr.ca) (j := k) (u := x) vtR hkg rfl (Reads.of (r := bunR (rwsR ws)) (RdOf.row hk) (by repeat (first | exact Take1.head | apply Take1.tail))) rfl hxx) rfl ?_
      refine WL.callC (xs := [.tmp 28, .tmp 35]) (cap := []) rfl rfl en10 (by repeat (first | exact TakeL.nil | (apply TakeL.cons; · repeat (first | exact Take1.head | apply Take1.tail)))) (fun w hw => takeR_any ao2 ca2 (bkN ls i kr.l k) x hq1 hxo (by omega) w hw.left.here) rfl ?_ -- t36 hailer/hailerref36.Take
      rintro ⟨a36, c36⟩ -
      rw [← hnx]
      dsimp only [List.cons_append, List.nil_append]
      refine WL.y (Yl.move rfl) rfl ?_ -- t27
      refine WL.y (Yl.extract rfl rfl) rfl ?_ -- t37
      refine WL.y (Yl.extract rfl rfl) rfl ?_ -- t38
      refine WL.y (Yl.extract rfl rfl) rfl ?_ -- t39
      refine WL.y (Yl.assign rfl) rfl ?_ -- t3
      refine WL.nil ?_
      refine WC.region ?_
      refine WL.y (Yl.move rfl) rfl ?_ -- t25
      refine WL.y (Yl.add rfl rfl (IntWalk.i64_in _ (by omega))) rfl ?_ -- t26
      refine WL.y (Yl.assign rfl) rfl ?_ -- t5
      refine WL.nil ?_
      exact ⟨rfl, (k + 1, a36, c36), by dsimp only; omega, by dsimp only; omega, (by repeat (first | exact Sub.nil | refine Sub.cons rfl ?_)), _, (by repeat (first | exact TakeL.nil | (apply TakeL.cons; · repeat (first | exact Take1.head | apply Take1.tail))))⟩
    · refine WC.exit ?_
      have hk2 : k = kr.l.length := by omega
      subst hk2
      rw [bkN_all hkl]
      refine WC.region ?_
      refine WL.y (Yl.move rfl) rfl ?_ -- t16
      refine WL.y (Yl.add rfl rfl (IntWalk.i64_in _ (by omega))) rfl ?_ -- t17
      refine WL.y (Yl.assign rfl) rfl ?_ -- t4
      refine WL.nil ?_
      exact ⟨rfl, (i + 1, ao2, ca2), by dsimp only; omega, by dsimp only; omega, (by repeat (first | exact Sub.nil | refine Sub.cons rfl ?_)), _, (by repeat (first | exact TakeL.nil | (apply TakeL.cons; · repeat (first | exact Take1.head | apply Take1.tail))))⟩
  · refine WC.exit ?_
    refine WC.seq ?_
    have hil : i = ws.length := by omega
    subst hil
    rw [← hlen, List.take_length, hlen]
    refine WC.region ?_
    refine WL.y (Yl.assign rfl) rfl ?_ -- t6
    refine WL.nil ?_
    refine WC.seq ?_
    refine WC.seq ?_
    refine WC.region ?_
    refine WL.y (Yl.assign rfl) rfl ?_ -- t7
    refine WL.nil ?_
    refine WC.block ?_
    refine WC.view (fun w h => (h.addNil 31 22).readOnly (v := .slice none 0 0) .head) ?_
    refine WC.loop (α := Nat × (Option Addr × Nat)) (fun s => [(0, .slice al ws.length cl), (3, .slice ao (bestF ls).length ca), (6, .slice s.2.1 (viewN (bestF ls) ls s.1).length s.2.2), (7, .int .i64 (s.1 : Int))]) (fun s => [rdR (.slice al ws.length cl) 1 ws.length (ws.map rwV), bunR (rwsR ws), rdR (.slice ao (bestF ls).length ca) 22 (bestF ls).length (vcs rcV (bestF ls)), rdR (.slice s.2.1 (viewN (bestF ls) ls s.1).length s.2.2) 22 (viewN (bestF ls) ls s.1).length (vcs rcV (viewN (bestF ls) ls s.1))]) (fun s => s.1 ≤ (bestF ls).length) (fun s => (bestF ls).length - s.1) (0, (none, 0)) (Nat.zero_le _) ⟨(by repeat (first | exact Sub.nil | refine Sub.cons rfl ?_)), _, (by repeat (first | exact TakeL.nil | (apply TakeL.cons; · repeat (first | exact Take1.head | apply Take1.tail))))⟩ ?_
    rintro ⟨i, ao3, ca3⟩ hi
    dsimp only at hi ⊢
    refine WC.seq ?_
    refine WC.seq ?_
    refine WC.region ?_
    refine WL.y (Yl.move rfl) rfl ?_ -- t40
    refine WL.y (Yl.move rfl) rfl ?_ -- t41
    refine WL.y (Yl.len un22 rfl) rfl ?_ -- t42
    refine WL.y (Yl.lss rfl rfl) rfl ?_ -- t43
    refine WL.nil ?_
    refine WC.condD rfl (fun g43 => ?_) (fun g43 => ?_)
    · refine WC.skip ?_
      refine WC.seq ?_
      refine WC.block ?_
      refine WC.seq ?_
      have hib : i < (bestF ls).length := by omega
      obtain ⟨x, hx0⟩ : ∃ x, (bestF ls)[i]? = some x := ⟨_, List.getElem?_eq_getElem hib⟩
      have hxo : x.ok := hbk.rok.get hx0
      have h22 := Rc.cells_len hxo.len
      obtain ⟨ho1, ho2⟩ := viewN_ord (ls := ls) hbk hG i
      have hnx := viewN_next (ls := ls) hx0
      refine WC.region ?_
      refine WL.y (Yl.move rfl) rfl ?_ -- t46
      refine WL.y (Yl.move rfl) rfl ?_ -- t47
      refine WL.y (Yl.index un22 sz31 rfl rfl (Reads.of (r := rdR (.slice ao (bestF ls).length ca) 22 (bestF ls).length (vcs rcV (bestF ls))) RdOf.rd' (by repeat (first | exact Take1.head | apply Take1.tail))) rfl (by omega)) rfl ?_ -- t48
      refine WL.y (Yl.loadV (j := i) (u := x) vtR hbk.rok rfl (Reads.of (r := rdR (.slice ao (bestF ls).length ca) 22 (bestF ls).length (vcs rcV (bestF ls))) RdOf.rd' (by repeat (first | exact Take1.head | apply Take1.tail))) rfl hx0) rfl ?_
      refine WL.to (To.alloc (cs := Rc.zero.cells) zr31 rfl) rfl ?_ -- t8
      intro b8
      refine WL.sto (Sto.agg sz31 rfl rfl (by repeat (first | exact Take1.head | apply Take1.tail)) (Rc.ones _) h22 (by rfl) (Rc.all (r := Rc.zero) rfl x.cells h22)) (fun _ h => nomatch h) ?_ -- st 1
      refine WL.nil ?_
      refine WC.seq ?_
      refine WC.seq ?_
      refine WC.region ?_
      refine WL.y (Yl.assign rfl) rfl ?_ -- t9
      refine WL.nil ?_
      refine WC.block ?_
      refine WC.loop (α := Nat) (fun j => [(0, .slice al ws.length cl), (3, .slice ao (bestF ls).length ca), (6, .slice ao3 (viewN (bestF ls) ls i).length ca3), (7, .int .i64 (i : Int)), (8, .pointer (some ⟨b8, 0, none⟩)), (9, .int .i64 (j : Int))]) (fun j => [blkR b8 31 (widF x (ls.take j)).cells, rdR (.slice al ws.length cl) 1 ws.length (ws.map rwV), bunR (rwsR ws), rdR (.slice ao (bestF ls).length ca) 22 (bestF ls).length (vcs rcV (bestF ls)), rdR (.slice ao3 (viewN (bestF ls) ls i).length ca3) 22 (viewN (bestF ls) ls i).length (vcs rcV (viewN (bestF ls) ls i))]) (fun j => j ≤ ws.length) (fun j => ws.length - j) 0 (Nat.zero_le _) ⟨(by repeat (first | exact Sub.nil | refine Sub.cons rfl ?_)), _, (by repeat (first | exact TakeL.nil | (apply TakeL.cons; · repeat (first | exact Take1.head | apply Take1.tail))))⟩ ?_
      intro j hj
      obtain ⟨r, hr⟩ : ∃ r, widF x (ls.take j) = r := ⟨_, rfl⟩
      have hro : r.ok := by rw [← hr]; exact widF_ok (fun l h => hG l (List.mem_of_mem_take h)) hxo
      have hr22 := Rc.cells_len hro.len
      rw [hr]
      refine WC.seq ?_
      refine WC.seq ?_
      refine WC.region ?_
      refine WL.y (Yl.move rfl) rfl ?_ -- t50
      refine WL.y (Yl.move rfl) rfl ?_ -- t51
      refine WL.y (Yl.len un56 rfl) rfl ?_ -- t52
      refine WL.y (Yl.lss rfl rfl) rfl ?_ -- t53
      refine WL.nil ?_
      refine WC.condD rfl (fun g53 => ?_) (fun g53 => ?_)
      · refine WC.skip ?_
        refine WC.seq ?_
        refine WC.block ?_
        refine WC.seq ?_
        have hjl : j < ws.length := by omega
        obtain ⟨kr, hk⟩ : ∃ k, ws[j]? = some k := ⟨_, List.getElem?_eq_getElem hjl⟩
        have hkl := hat hk
        have hkb := hB _ (List.mem_of_getElem? hkl)
        have hkg := hkb.rok
        have hkn := flat_mem (List.mem_of_getElem? hkl)
        have hwn : widF x (ls.take (j + 1)) = wid1 r kr.l := by rw [← take_snoc _ _ _ hkl, widF_snoc, hr]
        refine WC.region ?_
        refine WL.y (Yl.assign rfl) rfl ?_ -- t10
        refine WL.nil ?_
        refine WC.block ?_
        refine WC.loop (α := Nat) (fun k => [(0, .slice al ws.length cl), (3, .slice ao (bestF ls).length ca), (6, .slice ao3 (viewN (bestF ls) ls i).length ca3), (7, .int .i64 (i : Int)), (8, .pointer (some ⟨b8, 0, none⟩)), (9, .int .i64 (j : Int)), (10, .int .i64 (k : Int))]) (fun k => [blkR b8 31 (stN r kr.l k).cells, rdR (.slice al ws.length cl) 1 ws.length (ws.map rwV), bunR (rwsR ws), rdR (.slice ao (bestF ls).length ca) 22 (bestF ls).length (vcs rcV (bestF ls)), rdR (.slice ao3 (viewN (bestF ls) ls i).length ca3) 22 (viewN (bestF ls) ls i).length (vcs rcV (viewN (bestF ls) ls i))]) (fun k => k ≤ kr.l.length) (fun k => kr.l.length - k) 0 (Nat.zero_le _) ⟨(by repeat (first | exact Sub.nil | refine Sub.cons rfl ?_)), _, (by repeat (first | exact TakeL.nil | (apply TakeL.cons; · repeat (first | exact Take1.head | apply Take1.tail))))⟩ ?_
        intro k hkk
        obtain ⟨hq1, hq2⟩ := stN_ok hro hkg k
        obtain ⟨q, hq⟩ : ∃ q, stN r kr.l k = q := ⟨_, rfl⟩
        rw [hq] at hq1 hq2 ⊢
        have hq22 := Rc.cells_len hq1.len
        refine WC.seq ?_
        refine WC.seq ?_
        refine WC.region ?_
        refine WL.y (Yl.move rfl) rfl ?_ -- t56
        refine WL.y (Yl.move rfl) rfl ?_ -- t57
        refine WL.y (Yl.move rfl) rfl ?_ -- t58
        refine WL.y (Yl.index un56 sz22 rfl rfl (Reads.of (r := rdR (.slice al ws.length cl) 1 ws.length (ws.map rwV)) RdOf.rd' (by repeat (first | exact Take1.head | apply Take1.tail))) rfl (by omega)) rfl ?_ -- t59
        refine WL.y (Yl.loadE on22 rfl (Reads.of (r := rdR (.slice al ws.length cl) 1 ws.length (ws.map rwV)) RdOf.rd' (by repeat (first | exact Take1.head | apply Take1.tail))) (u := .slice kr.ao kr.l.length kr.ca) (by simp [hk, rwV])) rfl ?_
        refine WL.y (Yl.len un22 rfl) rfl ?_ -- t61
        refine WL.y (Yl.lss rfl rfl) rfl ?_ -- t62
        refine WL.nil ?_
        refine WC.condD rfl (fun g62 => ?_) (fun g62 => ?_)
        · refine WC.skip ?_
          refine WC.seq ?_
          refine WC.block ?_
          refine WC.seq ?_
          have hkx : k < kr.l.length := by omega
          obtain ⟨y, hyy⟩ : ∃ x, kr.l[k]? = some x := ⟨_, List.getElem?_eq_getElem hkx⟩
          have hyo := hkg.get hyy
          have hy22 := Rc.cells_len hyo.len
          have hsn := stN_next (r := r) hyy
          rw [hq, ← hq2, step1_two] at hsn
          obtain ⟨hb1, hb2⟩ := bgF_ok hq1 hyo
          refine WC.region ?_
          refine WL.y (Yl.move rfl) rfl ?_ -- t65
          refine WL.y (Yl.move rfl) rfl ?_ -- t66
          refine WL.y (Yl.index un56 sz22 rfl rfl (Reads.of (r := rdR (.slice al ws.length cl) 1 ws.length (ws.map rwV)) RdOf.rd' (by repeat (first | exact Take1.head | apply Take1.tail))) rfl (by omega)) rfl ?_ -- t67
          refine WL.y (Yl.loadE on22 rfl (Reads.of (r := rdR (.slice al ws.length cl) 1 ws.length (ws.map rwV)) RdOf.rd' (by repeat (first | exact Take1.head | apply Take1.tail))) (u := .slice kr.ao kr.l.length kr.ca) (by simp [hk, rwV])) rfl ?_
          refine WL.y (Yl.move rfl) rfl ?_ -- t69
          refine WL.y (Yl.index un22 sz31 rfl rfl (Reads.of (r := bunR (rwsR ws)) (RdOf.row hk) (by repeat (first | exact Take1.head | apply Take1.tail))) rfl (by omega)) rfl ?_ -- t70
          refine WL.y (Yl.loadV (v := .slice kr.ao kr.l.length kr.ca) (j := k) (u := y) vtR hkg rfl (Reads.of (r := bunR (rwsR ws)) (RdOf.row hk) (by repeat (first | exact Take1.head | apply Take1.tail))) rfl hyy) rfl ?_
          refine WL.to (To.alloc (cs := Rc.zero.cells) zr31 rfl) rfl ?_ -- t11
          intro b11
          refine WL.sto (Sto.agg sz31 rfl rfl (by repeat (first | exact Take1.head | apply Take1.tail)) (Rc.ones _) hy22 (by rfl) (Rc.all (r := Rc.zero) rfl y.cells hy22)) (fun _ h => nomatch h) ?_ -- st 2
          refine WL.nil ?_
          refine WC.midX (α := Rc) (fun q1 => [(0, .slice al ws.length cl), (3, .slice ao (bestF ls).length ca), (6, .slice ao3 (viewN (bestF ls) ls i).length ca3), (7, .int .i64 (i : Int)), (8, .pointer (some ⟨b8, 0, none⟩)), (9, .int .i64 (j : Int)), (10, .int .i64 (k : Int)), (11, .pointer (some ⟨b11, 0, none⟩))]) (fun q1 => [blkR b11 31 y.cells, blkR b8 31 q1.cells, rdR (.slice al ws.length cl) 1 ws.length (ws.map rwV), bunR (rwsR ws), rdR (.slice ao (bestF ls).length ca) 22 (bestF ls).length (vcs rcV (bestF ls)), rdR (.slice ao3 (viewN (bestF ls) ls i).length ca3) 22 (viewN (bestF ls) ls i).length (vcs rcV (viewN (bestF ls) ls i))]) (fun q1 => q1 = bgF q y) ?_ ?_
          · refine WC.seq ?_
            refine WC.region ?_
            refine WL.y (Yl.field fo31_0 rfl) rfl ?_ -- t72
            refine WL.y (Yl.loadN ag28 rfl (by repeat (first | exact Take1.head | apply Take1.tail)) (leB (by rw [hy22]; omega)) (Rc.cid hyo.len)) rfl ?_ -- t73
            refine WL.y (Yl.field fo31_0 rfl) rfl ?_ -- t74
            refine WL.y (Yl.loadN ag28 rfl (by repeat (first | exact Take1.head | apply Take1.tail)) (leB (by rw [hq22]; omega)) (Rc.cid hq1.len)) rfl ?_ -- t75
            refine WL.y (Yl.eqA flId rfl rfl (fitsId hyo.len hyo.id) (fitsId hq1.len hq1.id)) rfl ?_
            rw [eqV_ints]
            refine WL.y (Yl.move rfl) rfl ?_ -- t77
            refine WL.both (t := 77) rfl (fun g77 => ?_) (fun g77 => ?_)
            · refine WL.on rfl rfl ?_
              refine WL.y (Yl.field fo31_4 rfl) rfl ?_ -- t78
              refine WL.on rfl rfl ?_
              refine WL.y (Yl.load on29 rfl (by repeat (first | exact Take1.head | apply Take1.tail)) (Rc.c19 hyo.len)) rfl ?_ -- t79
              refine WL.on rfl rfl ?_
              refine WL.y (Yl.field fo31_4 rfl) rfl ?_ -- t80
              refine WL.on rfl rfl ?_
              refine WL.y (Yl.load on29 rfl (by repeat (first | exact Take1.head | apply Take1.tail)) (Rc.c19 hq1.len)) rfl ?_ -- t81
              refine WL.on rfl rfl ?_
              refine WL.y (Yl.lss rfl rfl) rfl ?_ -- t82
              refine WL.y (Yl.pickT rfl rfl) rfl ?_ -- t83
              refine WL.nil ?_
              refine WC.condD rfl (fun g83 => ?_) (fun g83 => ?_)
              · refine WC.region ?_
                refine WL.y (Yl.field fo31_4 rfl) rfl ?_ -- t84
                refine WL.y (Yl.load on29 rfl (by repeat (first | exact Take1.head | apply Take1.tail)) (Rc.c19 hyo.len)) rfl ?_ -- t85
                refine WL.y (Yl.field fo31_4 rfl) rfl ?_ -- t86
                refine WL.sto (Sto.one sz29 rfl rfl (by repeat (first | exact Take1.head | apply Take1.tail)) rfl (leB (show 20 ≤ _ by rw [hq22]; omega)) (by rfl)) (fun _ h => nomatch h) ?_
                rw [Rc.cells_bg hq1.len]
                refine WL.nil ?_
                exact ⟨rfl, { q with bg := y.bg }, by unfold bgF; rw [if_pos ⟨by simpa using g77, g83⟩], (by repeat (first | exact Sub.nil | refine Sub.cons rfl ?_)), _, (by repeat (first | exact TakeL.nil | (apply TakeL.cons; · repeat (first | exact Take1.head | apply Take1.tail))))⟩
              · refine WC.skip ?_
                exact ⟨rfl, q, by unfold bgF; rw [if_neg (fun h => g83 h.2)], (by repeat (first | exact Sub.nil | refine Sub.cons rfl ?_)), _, (by repeat (first | exact TakeL.nil | (apply TakeL.cons; · repeat (first | exact Take1.head | apply Take1.tail))))⟩
            · refine WL.off rfl rfl rfl rfl ?_ -- t78
              refine WL.off rfl rfl rfl rfl ?_ -- t79
              refine WL.off rfl rfl rfl rfl ?_ -- t80
              refine WL.off rfl rfl rfl rfl ?_ -- t81
              refine WL.off rfl rfl rfl rfl ?_ -- t82
              refine WL.y (Yl.pickF rfl rfl) rfl ?_ -- t83
              refine WL.nil ?_
              refine WC.condF rfl (by first | rfl | (simp; done) | (simp; omega)) ?_
              refine WC.skip ?_
              exact ⟨rfl, q, by unfold bgF; rw [if_neg (fun h => absurd h.1 (by simpa using g77))], (by repeat (first | exact Sub.nil | refine Sub.cons rfl ?_)), _, (by repeat (first | exact TakeL.nil | (apply TakeL.cons; · repeat (first | exact Take1.head | apply Take1.tail))))⟩
          · rintro q1 hbg
            rw [← hbg] at hsn hb1 hb2
            have hb22 := Rc.cells_len hb1.len
            refine WC.seq ?_
            refine WC.region ?_
            refine WL.y (Yl.field fo31_0 rfl) rfl ?_ -- t87
            refine WL.y (Yl.loadN ag28 rfl (by repeat (first | exact Take1.head | apply Take1.tail)) (leB (by rw [hy22]; omega)) (Rc.cid hyo.len)) rfl ?_ -- t88
            refine WL.y (Yl.field fo31_0 rfl) rfl ?_ -- t89
            refine WL.y (Yl.loadN ag28 rfl (by repeat (first | exact Take1.head | apply Take1.tail)) (leB (by rw [hb22]; omega)) (Rc.cid hb1.len)) rfl ?_ -- t90
            refine WL.y (Yl.eqA flId rfl rfl (fitsId hyo.len hyo.id) (fitsId hb1.len hb1.id)) rfl ?_
            rw [eqV_ints]
            refine WL.y (Yl.move rfl) rfl ?_ -- t92
            refine WL.both (t := 92) rfl (fun g92 => ?_) (fun g92 => ?_)
            · refine WL.on rfl rfl ?_
              refine WL.y (Yl.field fo31_6 rfl) rfl ?_ -- t93
              refine WL.on rfl rfl ?_
              refine WL.y (Yl.load on29 rfl (by repeat (first | exact Take1.head | apply Take1.tail)) (Rc.c21 hyo.len)) rfl ?_ -- t94
              refine WL.on rfl rfl ?_
              refine WL.y (Yl.field fo31_6 rfl) rfl ?_ -- t95
              refine WL.on rfl rfl ?_
              refine WL.y (Yl.load on29 rfl (by repeat (first | exact Take1.head | apply Take1.tail)) (Rc.c21 hb1.len)) rfl ?_ -- t96
              refine WL.on rfl rfl ?_
              refine WL.y (Yl.gtr rfl rfl) rfl ?_ -- t97
              refine WL.y (Yl.pickT rfl rfl) rfl ?_ -- t98
              refine WL.nil ?_
              refine WC.condD rfl (fun g98 => ?_) (fun g98 => ?_)
              · refine WC.region ?_
                refine WL.y (Yl.field fo31_6 rfl) rfl ?_ -- t99
                refine WL.y (Yl.load on29 rfl (by repeat (first | exact Take1.head | apply Take1.tail)) (Rc.c21 hyo.len)) rfl ?_ -- t100
                refine WL.y (Yl.field fo31_6 rfl) rfl ?_ -- t101
                refine WL.sto (Sto.one sz29 rfl rfl (by repeat (first | exact Take1.head | apply Take1.tail)) rfl (leB (show 22 ≤ _ by rw [hb22]; omega)) (by rfl)) (fun _ h => nomatch h) ?_
                rw [Rc.cells_en hb1.len]
                refine WL.nil ?_
                refine WC.region ?_
                refine WL.y (Yl.move rfl) rfl ?_ -- t63
                refine WL.y (Yl.add rfl rfl (IntWalk.i64_in _ (by omega))) rfl ?_ -- t64
                refine WL.y (Yl.assign rfl) rfl ?_ -- t10
                refine WL.nil ?_
                have e : enF q1 y = { q1 with en := y.en } := by unfold enF; rw [if_pos ⟨by simpa using g92, g98⟩]
                rw [e] at hsn
                exact ⟨rfl, k + 1, by omega, by omega, (by repeat (first | exact Sub.nil | refine Sub.cons rfl ?_)), _, by rw [hsn]; exact (by repeat (first | exact TakeL.nil | (apply TakeL.cons; · repeat (first | exact Take1.head | apply Take1.tail))))⟩
              · refine WC.skip ?_
                refine WC.region ?_
                refine WL.y (Yl.move rfl) rfl ?_ -- t63
                refine WL.y (Yl.add rfl rfl (IntWalk.i64_in _ (by omega))) rfl ?_ -- t64
                refine WL.y (Yl.assign rfl) rfl ?_ -- t10
                refine WL.nil ?_
                have e : enF q1 y = q1 := by unfold enF; rw [if_neg (fun h => g98 h.2)]
                rw [e] at hsn
                exact ⟨rfl, k + 1, by omega, by omega, (by repeat (first | exact Sub.nil | refine Sub.cons rfl ?_)), _, by rw [hsn]; exact (by repeat (first | exact TakeL.nil | (apply TakeL.cons; · repeat (first | exact Take1.head | apply Take1.tail))))⟩
            · refine WL.off rfl rfl rfl rfl ?_ -- t93
              refine WL.off rfl rfl rfl rfl ?_ -- t94
              refine WL.off rfl rfl rfl rfl ?_ -- t95
              refine WL.off rfl rfl rfl rfl ?_ -- t96
              refine WL.off rfl rfl rfl rfl ?_ -- t97
              refine WL.y (Yl.pickF rfl rfl) rfl ?_ -- t98
              refine WL.nil ?_
              refine WC.condF rfl (by first | rfl | (simp; done) | (simp; omega)) ?_
              refine WC.skip ?_
              refine WC.region ?_
              refine WL.y (Yl.move rfl) rfl ?_ -- t63
              refine WL.y (Yl.add rfl rfl (IntWalk.i64_in _ (by omega))) rfl ?_ -- t64
              refine WL.y (Yl.assign rfl) rfl ?_ -- t10
              refine WL.nil ?_
              have e : enF q1 y = q1 := by unfold enF; rw [if_neg (fun h => absurd h.1 (by simpa using g92))]
              rw [e] at hsn
              exact ⟨rfl, k + 1, by omega, by omega, (by repeat (first | exact Sub.nil | refine Sub.cons rfl ?_)), _, by rw [hsn]; exact (by repeat (first | exact TakeL.nil | (apply TakeL.cons; · repeat (first | exact Take1.head | apply Take1.tail))))⟩
        · refine WC.exit ?_
          have hk2 : k = kr.l.length := by omega
          subst hk2
          rw [stN_all hkb] at hq
          rw [← hq, ← hwn]
          refine WC.region ?_
          refine WL.y (Yl.move rfl) rfl ?_ -- t54
          refine WL.y (Yl.add rfl rfl (IntWalk.i64_in _ (by omega))) rfl ?_ -- t55
          refine WL.y (Yl.assign rfl) rfl ?_ -- t9
          refine WL.nil ?_
          exact ⟨rfl, j + 1, by omega, by omega, (by repeat (first | exact Sub.nil | refine Sub.cons rfl ?_)), _, (by repeat (first | exact TakeL.nil | (apply TakeL.cons; · repeat (first | exact Take1.head | apply Take1.tail))))⟩
      · refine WC.exit ?_
        have hjl : j = ws.length := by omega
        subst hjl
        rw [← hlen, List.take_length] at hr
        rw [hr] at hnx
        refine WC.region ?_
        refine WL.y (Yl.move rfl) rfl ?_ -- t102
        refine WL.y (Yl.loadN ag31 rfl (by repeat (first | exact Take1.head | apply Take1.tail)) (leB (by rw [hr22]; omega)) (Rc.call hro.len)) rfl ?_ -- t103
        refine WL.callC (xs := [.tmp 102, .tmp 103]) (cap := []) rfl rfl en38 (by repeat (first | exact TakeL.nil | (apply TakeL.cons; · repeat (first | exact Take1.head | apply Take1.tail)))) (fun w hw => putR_any ao3 ca3 (viewN (bestF ls) ls i) r ho1.ok hro (by omega) w hw.left.here) rfl ?_ -- t104 hailer/hailerref36.Put
        rintro ⟨a104, c104⟩ -
        rw [← hnx]
        dsimp only [List.cons_append, List.nil_append]
        refine WL.view (fun w h => h.readOnly (v := .slice a104 (viewN (bestF ls) ls (i + 1)).length c104) (by repeat (first | exact Take1.head | apply Take1.tail))) ?_
        refine WL.y (Yl.assign rfl) rfl ?_ -- t6
        refine WL.nil ?_
        refine WC.region ?_
        refine WL.y (Yl.move rfl) rfl ?_ -- t44
        refine WL.y (Yl.add rfl rfl (IntWalk.i64_in _ (by omega))) rfl ?_ -- t45
        refine WL.y (Yl.assign rfl) rfl ?_ -- t7
        refine WL.nil ?_
        exact ⟨rfl, (i + 1, a104, c104), by dsimp only; omega, by dsimp only; omega, (by repeat (first | exact Sub.nil | refine Sub.cons rfl ?_)), _, (by repeat (first | exact TakeL.nil | (apply TakeL.cons; · repeat (first | exact Take1.head | apply Take1.tail))))⟩
    · refine WC.exit ?_
      refine WC.seq ?_
      refine WC.region ?_
      refine WL.y (Yl.move rfl) rfl ?_ -- t105
      refine WL.y (Yl.assign rfl) rfl ?_ -- t2
      refine WL.nil ?_
      refine WC.ret ?_
      repeat (first | (with_reducible refine peelT ?_) | (with_reducible refine peelB ?_) | (with_reducible refine peelTX ?_) | (with_reducible refine peelBX ?_) | (with_reducible refine peelBN ?_) | (with_reducible refine peelBO rfl ?_))
      have hil : i = (bestF ls).length := by omega
      subst hil
      rw [viewN_all]
      exact ret1 (.inr rfl) Try.results25 rfl fun w' h => ⟨(ao3, ca3), trivial, rfl, h.sub (by repeat (first | exact TakeL.nil | (apply TakeL.cons; · repeat (first | exact Take1.head | apply Take1.tail))))⟩
end Go.Proofs.Ytmcdbjbkkejbbaa
