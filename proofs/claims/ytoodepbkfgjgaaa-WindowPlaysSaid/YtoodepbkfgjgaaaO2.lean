/- Of any counters, one behind the other: each answer, the greatest one, and those in the window, are the document's: the walk of the statement. -/
import Derived.Test.YtoodepbkfgjgaaaP2
import Derived.Test.YtoodepbkfgjgaaaB2
import Derived.Deep.WholeRow
namespace Go.Proofs.Ytoodepbkfgjgaaa
open Go Go.RowKit
attribute [local go_sem] Oper.semAt_some

theorem sl29 : SlT Try.prog 29 25 (.int .u64 0) 1 8 := SlT.mk' Try.underlying29 (by kernel_rfl) rfl (by decide)

theorem heap_new_drew (w : World) (n : Nat) (o : Obj) : ((w.drewN n).alloc o).heap[w.heap.size]? = some o := heap_alloc_new (w.drewN n) o
theorem setRow_new_drew (w : World) (n : Nat) (c c' : Array Value) (t : TypeId) : ((w.drewN n).alloc (.cells c t)).setRow w.heap.size c' = (w.drewN n).alloc (.cells c' t) := World.setRow_alloc_new (w.drewN n) c c' t

theorem step_law {s : Win} {acc : List Int} (h : Knows s acc) (hd : acc.Nodup) (hn : Nums acc) (x : Int) (x0 : 0 ≤ x) (x1 : x < 18446744073709551616) (hz : s.see x = 0) :
    Knows (s.step x) (acc ++ [x]) ∧ (acc ++ [x]).Nodup ∧ Nums (acc ++ [x]) := by
  have hnot : x ∉ acc := by
    intro hin
    have := see_knows h x x0
    rw [hz, if_pos hin] at this
    split at this <;> omega
  refine ⟨?_, ?_, ?_⟩
  · unfold Win.step; rw [if_pos hz]; exact (note_knows h x x0 x1 hz).1
  · rw [List.nodup_append]
    exact ⟨hd, by simp, fun a ha b hb => by simp at hb; rintro rfl; exact hnot (hb ▸ ha)⟩
  · intro i y hy
    rw [List.getElem?_append] at hy
    split at hy
    · exact hn i y hy
    · have : y = x := by
        cases hq : i - acc.length with
        | zero => rw [hq] at hy; simpa using hy.symm
        | succ q => rw [hq] at hy; simp at hy
      subst this; exact ⟨x0, x1⟩

/-- What the copy and its three notes leave: nothing of the old world is touched. -/
theorem old_any (w : World) (n : Nat) (s : Win) (hs : s.wf) (x : Int) (x0 : 0 ≤ x) (x1 : x < 18446744073709551616) :
    Calls Try.prog 8 #[.pointer (some ⟨w.heap.size, 0, none⟩), .slice (some ⟨w.heap.size + 1, 0, none⟩) 3 3]
      (((w.drewN n).alloc (.cells s.cells.toArray 28)).alloc (.cells #[.int .u64 x, .int .u64 (IntKind.u64.wrap (x + 1)), .int .u64 7] 25)) fun e w' => (∃ v, e = .returned v) ∧ Chg noB w w' := by
  have h1 : WinAt (((w.drewN n).alloc (.cells s.cells.toArray 28)).alloc (.cells #[.int .u64 x, .int .u64 (IntKind.u64.wrap (x + 1)), .int .u64 7] 25)) w.heap.size s :=
    WinAt.chg (S := noB) ⟨hs, heap_new_drew _ _ _⟩ (Chg.alloc _ _ _) (fun h => h)
  have h2 := Sown.new ((w.drewN n).alloc (.cells s.cells.toArray 28)) 25 1 #[.int .u64 x, .int .u64 (IntKind.u64.wrap (x + 1)), .int .u64 7] 3 (by decide) rfl
  rw [World.size_alloc] at h2
  have h3 : Chg noB w (((w.drewN n).alloc (.cells s.cells.toArray 28)).alloc (.cells #[.int .u64 x, .int .u64 (IntKind.u64.wrap (x + 1)), .int .u64 7] 25)) := ((Chg.drewN _ _ _).trans (Chg.alloc _ _ _)).trans (Chg.alloc _ _ _)
  have hn : Nums [x, IntKind.u64.wrap (x + 1), 7] := by
    intro i y hy
    match i, hy with
    | 0, hy => simp at hy; subst hy; exact ⟨x0, x1⟩
    | 1, hy =>
      simp at hy; subst hy
      rw [IntKind.wrap_u64]; omega
    | 2, hy => simp at hy; subst hy; exact ⟨by decide, by decide⟩
  refine (notes_any w.heap.size s _ [x, IntKind.u64.wrap (x + 1), 7] _ h1 h2.rd hn (fun k hk => by have e : w.heap.size + 1 = k := hk; omega) (by simp)).mono ?_
  rintro e w' ⟨ao, cap, rfl, _, _, hc, _⟩
  exact ⟨⟨_, rfl⟩, h3.step hc (fun i hi => by cases hi; exact Nat.le_refl _)⟩

theorem five_yes {b : Nat} {w wr w2 w3 w5 : World} {s2 : Win} {o o1 : Obj} {acc : List Int} {x : Int} {ar a5 : Option Addr} {cr c5 : Nat} (hb : ∀ j, blk (.slice ar acc.length cr) j → b < j) (h1 : w.heap.size ≤ b) (hx : wr.heap[b]? = some o1)
    (hc : Chg noB w wr) (c2 : Chg noB wr w2) (n1 : WinAt w3 b s2) (n2 : Chg (oneB b) w2 w3)
    (f1 : Sown w5 25 1 (.slice a5 (acc.length + 1) c5) (acc.length + 1) (ints .u64 acc ++ [.int .u64 x])) (f2 : Chg (blk (.slice ar acc.length cr)) (w3.alloc o) w5)
    (f3 : ∀ k, blk (.slice a5 (acc.length + 1) c5) k → blk (.slice ar acc.length cr) k ∨ ((w3.alloc o).heap.size ≤ k ∧ k < w5.heap.size)) :
    WinAt w5 b s2 ∧ Sown w5 25 1 (.slice a5 (acc.length + 1) c5) (acc.length + 1) (ints .u64 (acc ++ [x])) ∧ Chg noB w w5 ∧ (∀ j, blk (.slice a5 (acc.length + 1) c5) j → b < j) := by
  have hlt := lt_of_heap hx
  have s1 := c2.size
  have s3 := n2.size
  refine ⟨(n1.chg (Chg.alloc noB _ _) (fun h => h)).chg f2 (fun h => by have := hb b h; omega), by rw [← ints_snoc]; exact f1, ?_, ?_⟩
  · exact (((hc.trans c2).step n2 (fun i hi => by cases hi; exact h1)).trans (Chg.alloc _ _ _)).step f2 (fun i hi => by have := hb i hi; omega)
  · intro j hj
    rcases f3 j hj with h | h
    · exact hb j h
    · rw [World.size_alloc] at h; omega

theorem five_no {b : Nat} {w wr w2 w3 : World} {s2 : Win} {acc : List Int} {ar : Option Addr} {cr : Nat} (hb : ∀ j, blk (.slice ar acc.length cr) j → b < j) (h1 : w.heap.size ≤ b)
    (hs : Sown wr 25 1 (.slice ar acc.length cr) acc.length (ints .u64 acc)) (hc : Chg noB w wr) (c2 : Chg noB wr w2) (n1 : WinAt w3 b s2) (n2 : Chg (oneB b) w2 w3) :
    WinAt w3 b s2 ∧ Sown w3 25 1 (.slice ar acc.length cr) acc.length (ints .u64 acc) ∧ Chg noB w w3 ∧ (∀ j, blk (.slice ar acc.length cr) j → b < j) :=
  ⟨n1, (hs.chg c2 (fun _ _ h => h)).chg n2 (fun j hj h => by have := hb j hj; cases h; omega), (hc.trans c2).step n2 (fun i hi => by cases hi; exact h1), hb⟩

theorem cells_one (s : Win) : s.cells.toArray.all (·.oneCell') = true := by
  simp [Win.cells, Value.oneCell']

set_option maxRecDepth 100000 in
set_option maxHeartbeats 1000000 in
theorem plays_walk (a : Option Addr) (c : Nat) (xs : List Int) (a2 : Option Addr) (c2 : Nat) (ys : List Int) (w : World) (hr : Rd w 1 (.slice a xs.length c) xs.length (ints .u64 xs)) (hn : Nums xs)
    (hr2 : Rd w 1 (.slice a2 ys.length c2) ys.length (ints .u64 ys)) (hn2 : Nums ys) :
    Calls Try.prog 3 #[.slice a xs.length c, .slice a2 ys.length c2] w fun e w' => e = .returned (.bool true) ∧ Chg noB w w' := by
  obtain ⟨_, _, he, hl, hm⟩ := hr.form
  cases he
  obtain ⟨_, _, he, hl2, hm2⟩ := hr2.form
  cases he
  unfold maxLen at hm hm2
  have hb : xs.length ≤ 9223372036854775807 := by omega
  have hb2 : ys.length ≤ 9223372036854775807 := by omega
  clear hl hm hl2 hm2
  have R := Lib.hid hr
  have HN := Lib.hid hn
  have R2 := Lib.hid hr2
  have HN2 := Lib.hid hn2
  clear hr hn hr2 hn2
  by_cases hbig : 300 < xs.length
  · go_enter Try.func3, Try.ntmps3
    go_wp2_with (go_at_call 5; refine (known_any _).mono ?_; rintro e w1 ⟨rfl, m1⟩; have M := Lib.hid m1; clear m1)
    go_ret
    exact ⟨rfl, M.out⟩
  · by_cases hbig2 : 300 < ys.length
    · go_enter Try.func3, Try.ntmps3
      go_wp2_with (go_at_call 5; refine (known_any _).mono ?_; rintro e w1 ⟨rfl, m1⟩; have M := Lib.hid m1; clear m1)
      go_ret
      exact ⟨rfl, M.out⟩
    · go_enter Try.func3, Try.ntmps3
      go_wp2_with (go_at_call 5; refine (known_any _).mono ?_; rintro e w1 ⟨rfl, m1⟩; have M := Lib.hid m1; clear m1)
      have hw0 := (zero_at w1).chg (Chg.alloc noB _ (.cells #[] 25)) (fun h => h)
      have hs0 := Sown.new (w1.alloc (.cells #[.bool false, .int .u64 0, .int .u64 0, .int .u64 0, .int .u64 0, .int .u64 0, .int .u64 0, .int .u64 0, .int .u64 0, .int .u64 0, .int .u64 0, .int .u64 0, .int .u64 0, .int .u64 0, .int .u64 0, .int .u64 0, .int .u64 0, .int .u64 0] 28)) 25 1 #[] 0 (by unfold maxLen; omega) rfl
      rw [World.size_alloc] at hs0
      have hc0 : Chg noB w ((w1.alloc (.cells #[.bool false, .int .u64 0, .int .u64 0, .int .u64 0, .int .u64 0, .int .u64 0, .int .u64 0, .int .u64 0, .int .u64 0, .int .u64 0, .int .u64 0, .int .u64 0, .int .u64 0, .int .u64 0, .int .u64 0, .int .u64 0, .int .u64 0, .int .u64 0] 28)).alloc (.cells #[] 25)) := (M.out.trans (Chg.alloc _ _ _)).trans (Chg.alloc _ _ _)
      have hz0 : ((w1.alloc (.cells #[.bool false, .int .u64 0, .int .u64 0, .int .u64 0, .int .u64 0, .int .u64 0, .int .u64 0, .int .u64 0, .int .u64 0, .int .u64 0, .int .u64 0, .int .u64 0, .int .u64 0, .int .u64 0, .int .u64 0, .int .u64 0, .int .u64 0, .int .u64 0] 28)).alloc (.cells #[] 25)).heap.size = w1.heap.size + 2 := by simp
      have hz1 := M.out.size
      generalize (w1.alloc (.cells #[.bool false, .int .u64 0, .int .u64 0, .int .u64 0, .int .u64 0, .int .u64 0, .int .u64 0, .int .u64 0, .int .u64 0, .int .u64 0, .int .u64 0, .int .u64 0, .int .u64 0, .int .u64 0, .int .u64 0, .int .u64 0, .int .u64 0, .int .u64 0] 28)).alloc (.cells #[] 25) = w0 at *
      have W1S := Lib.hid hz1
      clear hz1 hz0
      go_loopw [6, 30] (fun r i wr => ∃ (k : Nat) (s : Win) (acc : List Int) (ar : Option Addr) (cr : Nat), k ≤ xs.length ∧ i = .int .i64 k ∧ r = .slice ar acc.length cr ∧
        Knows s acc ∧ acc.Nodup ∧ Nums acc ∧ WinAt wr w1.heap.size s ∧ Sown wr 25 1 (.slice ar acc.length cr) acc.length (ints .u64 acc) ∧ (∀ j, blk (.slice ar acc.length cr) j → w1.heap.size < j) ∧ acc.length ≤ k ∧ Chg noB w wr) (fun _ i _ => xs.length - (intOf i).toNat)
      case atStart => exact ⟨0, Win.zero, [], _, _, Nat.zero_le _, rfl, rfl, knows_zero, List.nodup_nil, (fun i x h => by simp at h), hw0, hs0, (fun j hj => by have e : w1.heap.size + 1 = j := hj; omega), Nat.le_refl _, hc0⟩
      case round =>
        obtain ⟨k, s, acc, ar, cr, hk, rfl, rfl, hkn, hnd, hna, hw, hso, hbl, hacc, hch⟩ := hrel
        have HR := Lib.hid (And.intro hkn (And.intro hnd (And.intro hna (And.intro hw (And.intro hso (And.intro hbl hch))))))
        clear hkn hnd hna hw hso hbl hch hw0 hs0 hc0
        by_cases hlt : k < xs.length
        · obtain ⟨p, o, x, rfl, _, hx, q⟩ := (R.out.chg HR.out.2.2.2.2.2.2 (fun _ _ h => h)).at k hlt
          obtain ⟨x0, x1⟩ := HN.out k x hx
          clear hx
          have hsp : (k < ys.length ∧ ∃ (p2 o2 : Nat) (y : Int), a2 = some ⟨p2, o2, none⟩ ∧ wr.cell? ⟨p2, o2 + k, none⟩ = some (.int .u64 y) ∧ 0 ≤ y ∧ y < 18446744073709551616) ∨ (¬ k < ys.length ∧ decide ((k : Int) < (ys.length : Int)) = false) := by
            by_cases hlk : k < ys.length
            · obtain ⟨p2, o2, y, h1, _, hy, q2⟩ := (R2.out.chg HR.out.2.2.2.2.2.2 (fun _ _ h => h)).at k hlk
              obtain ⟨y0, y1⟩ := HN2.out k y hy
              exact .inl ⟨hlk, p2, o2, y, by simpa using h1, q2, y0, y1⟩
            · exact .inr ⟨hlk, by simp; omega⟩
          have hws := HR.out.2.2.2.1.2
          have hcl : s.cells.toArray.size = 18 := by have := HR.out.2.2.2.1.1.len; simp [Win.cells, this]
          have HWS := Lib.hid hws
          have HCL := Lib.hid hcl
          clear hws hcl
          have hrs := fun W hW => refSee_any (.slice ar acc.length cr) acc x W hW HR.out.2.2.1 x0 x1
          rw [see_ref HR.out.1 x x0] at hrs
          have hsx := fun W hW => see_any w1.heap.size s x W x0 x1 hW
          have hnx := fun W hW => note_any w1.heap.size s x W x0 x1 hW
          have hsa := fun W hW => see_any w1.heap.size (s.step x) x W x0 x1 hW
          have hza := see_after HR.out.1 x x0 x1
          have hT := fun W hW => Top_any w1.heap.size (s.step x) W hW
          have hal : acc.length + 1 ≤ maxLen := by unfold maxLen; omega
          have hal2 : (acc.length + 1) * 8 ≤ 140737488355328 := by omega
          generalize hz2 : (s.step x).see x = z2 at hsa hza
          clear hz2
          by_cases hz : s.see x = 0
          · obtain ⟨l1, l2, l3⟩ := step_law HR.out.1 HR.out.2.1 HR.out.2.2.1 x x0 x1 hz
            have hRT : ∀ a c W, Rd W 1 (.slice a (acc.length + 1) c) (acc.length + 1) (ints .u64 (acc ++ [x])) → Calls Try.prog 11 #[.slice a (acc.length + 1) c] W fun e w' => e = .returned (.tuple #[.int .u64 (s.step x).top, .bool (s.step x).some]) ∧ w' = W := by
              intro a c W hW
              have := refTop_any (.slice a (acc.length + 1) c) (acc ++ [x]) W (by rw [List.length_append]; exact hW)
              rw [(top_knows l1).1, (top_knows l1).2] at this
              exact this
            rw [hz] at hrs hsx hnx
            have L := Lib.hid (And.intro l1 (And.intro l2 l3))
            clear l1 l2 l3 hz
            generalize hst : s.step x = s2 at *
            clear hst
            rcases hsp with ⟨hlk, p2, o2, y, rfl, q2, y0, y1⟩ | ⟨hlk, hd⟩
            case' inl =>
              have hcs := fun W hW => see_any w1.heap.size s y W y0 y1 hW
              have hcr := fun W hW => refSee_any (.slice ar acc.length cr) acc y W hW HR.out.2.2.1 y0 y1
              rw [see_ref HR.out.1 y y0] at hcr
              go_wp2
              go_quiet ((first | (go_at_call 6; exact Calls.quiet_of_same (hcs _ (HR.out.2.2.2.1.chg (Chg.drewN noB _ _) (fun h => h)))) | (go_at_call 7; exact Calls.quiet_of_same (hcr _ (HR.out.2.2.2.2.1.rd.chg (Chg.drewN noB _ _) (fun _ _ h => h))))))
              clear hcs hcr q2 y0 y1
            case' inr =>
              go_wp2
              go_quiet (fail)
            case' inr => clear hd
            all_goals
              go_wp2_with (first
                | (refine wpList_load_row rfl 28 (.tmp 55) rfl w1.heap.size rfl 28 s.cells.toArray (0, 0) _ HWS.out Try.underlying28 rfl (by rw [HCL.out]; rfl) ?_)
                | (refine wpList_store_row rfl 28 (.tmp 9) (.tmp 56) rfl _ s.cells.toArray rfl rfl 28 _ (heap_new_drew _ _ _) (by rw [HCL.out]; rfl) (by rw [HCL.out]; rfl) (cells_one s) ?_; rw [setRow_new_drew])
                | (go_at_call 8; refine (old_any wr _ s HR.out.2.2.2.1.1 x x0 x1).mono ?_; rintro e w2 ⟨⟨v2, rfl⟩, c2⟩; have C2 := Lib.hid c2; clear c2)
                | (go_at_call 7; refine (hrs _ (HR.out.2.2.2.2.1.rd.chg C2.out (fun _ _ h => h))).mono ?_; rintro e w' ⟨rfl, hw'⟩; obtain rfl := hw'.symm; clear hrs)
                | (go_at_call 6; refine (hsx _ (HR.out.2.2.2.1.chg C2.out (fun h => h))).mono ?_; rintro e w' ⟨rfl, hw'⟩; obtain rfl := hw'.symm; clear hsx)
                | (go_at_call 9; refine (hnx _ (HR.out.2.2.2.1.chg C2.out (fun h => h))).mono ?_; rintro e w3 ⟨rfl, n1, n2⟩; have N := Lib.hid (And.intro n1 n2); clear n1 n2 hnx)
                | (at_builtin; go_must (refine wpList_app _ sl29 rfl rfl rfl rfl (((HR.out.2.2.2.2.1.chg C2.out (fun _ _ h => h)).chg N.out.2 (fun j hj h => by have := HR.out.2.2.2.2.2.1 j hj; cases h; omega)).chg (Chg.alloc noB _ _) (fun _ _ h => h)) (m := 1) (Sown.new _ 25 1 _ 1 (by simp [maxLen]) rfl).rd (by simp [Value.oneCell']) hal hal2 ?_); intro a5 c5 w5 f1 f2 f3 _; have H5 := Lib.hid (five_yes HR.out.2.2.2.2.2.1 W1S.out HR.out.2.2.2.1.2 HR.out.2.2.2.2.2.2 C2.out N.out.1 N.out.2 f1 f2 f3); clear f1 f2 f3)
                | (go_at_call 10; refine (hT _ H5.out.1).mono ?_; rintro e w' ⟨rfl, m, rfl⟩; clear hT)
                | (go_at_call 11; refine (hRT _ _ _ (H5.out.2.1.rd.chg (Chg.drewN noB _ _) (fun _ _ h => h))).mono ?_; rintro e w' ⟨rfl, hw'⟩; obtain rfl := hw'.symm; clear hRT)
                | (go_at_call 6; refine (hsa _ (H5.out.1.chg (Chg.drewN noB _ _) (fun h => h))).mono ?_; rintro e w' ⟨rfl, hw'⟩; obtain rfl := hw'.symm; clear hsa))
              go_roundw
              case rel =>
                obtain ⟨l1, l2, l3⟩ := L.out
                obtain ⟨g1, g2, g3, g4⟩ := H5.out
                refine ⟨k + 1, s2, acc ++ [x], a5, c5, by omega, by go_num, by rw [List.length_append]; rfl, l1, l2, l3, ?_, ?_, ?_, ?_, ?_⟩
                · exact g1.chg (Chg.drewN noB _ _) (fun h => h)
                · rw [List.length_append]; exact g2.chg (Chg.drewN noB _ _) (fun _ _ h => h)
                · rw [List.length_append]; exact g4
                · rw [List.length_append]; simp; omega
                · exact g3.trans (Chg.drewN _ _ _)
              case measure => simp [intOf]; omega
          · have hst : s.step x = s := by unfold Win.step; rw [if_neg hz]
            have hRT : ∀ a c W, Rd W 1 (.slice a acc.length c) acc.length (ints .u64 acc) → Calls Try.prog 11 #[.slice a acc.length c] W fun e w' => e = .returned (.tuple #[.int .u64 (s.step x).top, .bool (s.step x).some]) ∧ w' = W := by
              intro a c W hW
              have := refTop_any (.slice a acc.length c) acc W hW
              rw [(top_knows HR.out.1).1, (top_knows HR.out.1).2] at this
              rw [hst]; exact this
            have HST := Lib.hid hst
            clear hst
            generalize s.see x = z at *
            rcases hsp with ⟨hlk, p2, o2, y, rfl, q2, y0, y1⟩ | ⟨hlk, hd⟩
            case' inl =>
              have hcs := fun W hW => see_any w1.heap.size s y W y0 y1 hW
              have hcr := fun W hW => refSee_any (.slice ar acc.length cr) acc y W hW HR.out.2.2.1 y0 y1
              rw [see_ref HR.out.1 y y0] at hcr
              go_wp2
              go_quiet ((first | (go_at_call 6; exact Calls.quiet_of_same (hcs _ (HR.out.2.2.2.1.chg (Chg.drewN noB _ _) (fun h => h)))) | (go_at_call 7; exact Calls.quiet_of_same (hcr _ (HR.out.2.2.2.2.1.rd.chg (Chg.drewN noB _ _) (fun _ _ h => h))))))
              clear hcs hcr q2 y0 y1
            case' inr =>
              go_wp2
              go_quiet (fail)
            case' inr => clear hd
            all_goals
              go_wp2_with (first
                | (refine wpList_load_row rfl 28 (.tmp 55) rfl w1.heap.size rfl 28 s.cells.toArray (0, 0) _ HWS.out Try.underlying28 rfl (by rw [HCL.out]; rfl) ?_)
                | (refine wpList_store_row rfl 28 (.tmp 9) (.tmp 56) rfl _ s.cells.toArray rfl rfl 28 _ (heap_new_drew _ _ _) (by rw [HCL.out]; rfl) (by rw [HCL.out]; rfl) (cells_one s) ?_; rw [setRow_new_drew])
                | (go_at_call 8; refine (old_any wr _ s HR.out.2.2.2.1.1 x x0 x1).mono ?_; rintro e w2 ⟨⟨v2, rfl⟩, c2⟩; have C2 := Lib.hid c2; clear c2)
                | (go_at_call 7; refine (hrs _ (HR.out.2.2.2.2.1.rd.chg C2.out (fun _ _ h => h))).mono ?_; rintro e w' ⟨rfl, hw'⟩; obtain rfl := hw'.symm; clear hrs)
                | (go_at_call 6; refine (hsx _ (HR.out.2.2.2.1.chg C2.out (fun h => h))).mono ?_; rintro e w' ⟨rfl, hw'⟩; obtain rfl := hw'.symm; clear hsx)
                | (go_at_call 9; refine (hnx _ (HR.out.2.2.2.1.chg C2.out (fun h => h))).mono ?_; rintro e w3 ⟨rfl, n1, n2⟩; have H5 := Lib.hid (five_no HR.out.2.2.2.2.2.1 W1S.out HR.out.2.2.2.2.1 HR.out.2.2.2.2.2.2 C2.out n1 n2); clear n1 n2 hnx)
                | (go_at_call 10; refine (hT _ H5.out.1).mono ?_; rintro e w' ⟨rfl, m, rfl⟩; clear hT)
                | (go_at_call 11; refine (hRT _ _ _ (H5.out.2.1.rd.chg (Chg.drewN noB _ _) (fun _ _ h => h))).mono ?_; rintro e w' ⟨rfl, hw'⟩; obtain rfl := hw'.symm; clear hRT)
                | (go_at_call 6; refine (hsa _ (H5.out.1.chg (Chg.drewN noB _ _) (fun h => h))).mono ?_; rintro e w' ⟨rfl, hw'⟩; obtain rfl := hw'.symm; clear hsa))
              go_roundw
              case rel =>
                obtain ⟨r1, r2, r3, _⟩ := HR.out
                obtain ⟨g1, g2, g3, g4⟩ := H5.out
                rw [HST.out] at g1
                exact ⟨k + 1, s, acc, ar, cr, by omega, by go_num, rfl, r1, r2, r3, g1.chg (Chg.drewN noB _ _) (fun h => h), g2.chg (Chg.drewN noB _ _) (fun _ _ h => h), g4, by omega, g3.trans (Chg.drewN _ _ _)⟩
              case measure => simp [intOf]; omega
        · obtain ⟨h1, h2, h3, h4, h5, h6, h7⟩ := HR.out
          have hA := fun W hW => all_any w1.heap.size s W hW
          have hB := fun W hW => refAll_any (.slice ar acc.length cr) acc W hW h3 (fun i x hx => refTop_le acc x (List.mem_of_getElem? hx)) (by omega)
          rw [← all_ref h1 h2] at hB
          have HA := Lib.hid (And.intro h4 (And.intro h5.rd h7))
          clear h1 h2 h3 h4 h5 h6 h7
          go_wp2_with (first
            | (go_at_call 13; refine (hA _ HA.out.1).mono ?_; rintro e w2 ⟨a3, c3, rfl, g1, g2, _⟩; have G := Lib.hid (And.intro g1.rd g2); clear g1 g2 hA)
            | (go_at_call 14; refine (hB _ (HA.out.2.1.chg G.out.2 (fun _ _ h => h))).mono ?_; rintro e w3 ⟨a4, c4, rfl, g1, g2, _⟩; have G2 := Lib.hid (And.intro g1.rd g2); clear g1 g2 hB)
            | (go_at_call 12; refine (eq22 _ _ s.all s.all _ (G.out.1.chg G2.out.2 (fun _ _ h => h)) G2.out.1).mono ?_; rintro e w4 ⟨rfl, g1⟩; have G3 := Lib.hid g1; clear g1))
          go_ret
          refine ⟨by simp, ?_⟩
          exact ((HA.out.2.2.trans G.out.2).trans G2.out.2).trans G3.out
end Go.Proofs.Ytoodepbkfgjgaaa
