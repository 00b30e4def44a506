/- RosterSets: the walk. -/
import Derived.Test.YtfdnnlcfolgegaaRosM
import Derived.Test.YtfdnnlcfolgegaaLibK
namespace Go.Proofs.Ytfdnnlcfolgegaa
open Go Go.RowKit

structure Dq where
  d : Dv
  inn : Bool
def Dq.cells (x : Dq) : List Value := [.int .u8 x.d.a, .int .u8 x.d.d, .bool x.inn]
def Dq.val (x : Dq) : Value := .agg x.cells.toArray
theorem Dq.ones (x : Dq) : ∀ v ∈ x.cells, v.oneCell' = true := by
  intro v hv
  simp only [Dq.cells, List.mem_cons, List.not_mem_nil, or_false] at hv
  rcases hv with rfl | rfl | rfl <;> rfl
theorem dqV : VT Try.prog 44 3 (fun _ : Dq => True) Dq.val := .agg (cel := Dq.cells) ag44 (by kernel_rfl) (by decide) (fun _ => rfl) (fun _ _ => rfl) Dq.ones
theorem dqAll {xs : List Dq} : ∀ x ∈ xs, (fun _ : Dq => True) x := fun _ _ => trivial
def vvU : Unit → Value := fun _ => .agg #[]
theorem keyDv : KeyT Try.prog 31 Dv.ok Dv.val :=
  KeyT.flat (cel := Dv.cells) (m := 5) (ks := [some .u8, some .u8]) (by kernel_rfl) (by decide) (by kernel_rfl) (by kernel_rfl) (by kernel_rfl) (by kernel_rfl) (by kernel_rfl) (by kernel_rfl) (fun x hx => Dv.fits hx) (fun x y _ _ h => by
    obtain ⟨a, d⟩ := x
    obtain ⟨b, f⟩ := y
    simp [Dv.cells] at h
    rw [h.1, h.2])
theorem dg_b (z : Nat) (xs : List Int) : ∀ x ∈ dgF z xs, 0 ≤ x ∧ x < 256 := by
  intro x hx
  obtain ⟨l, hl, hx⟩ := List.mem_flatten.1 hx
  obtain ⟨y, _, rfl⟩ := List.mem_map.1 hl
  obtain ⟨t, _, rfl⟩ := List.mem_map.1 hx
  rw [IntKind.wrap_u8]
  omega
theorem flatS : Flat Try.prog 46 (List.replicate 32 (some .u8)) := Flat.mk' 5 (by decide) (by kernel_rfl) (by kernel_rfl)
theorem digF_fits (r : Rs) (ms : List Dv) : Fits1 (List.replicate 32 (some .u8)) (ints .u8 (digF r ms)) := fitsB (sum256_len _) (dg_b _ _)

/-! ### One step -/
theorem code1 {inn : Bool} {e : Int} {ms : List Dv} {d : Dv} (hm : mayF e ms = true) (he : e < 1099511627776) : codeF inn e ms [d] = if d.big then 2 else errF inn ms d := by
  unfold codeF
  rw [hm]
  have h1 : runF inn ms [d] = if errF inn ms d ≠ 0 then (errF inn ms d, []) else (0, nxtF inn ms d) := rfl
  cases hb : d.big with
  | true => simp [hb]
  | false =>
    simp only [List.any_cons, List.any_nil, hb, Bool.or_false, Bool.not_false, Bool.and_true, Bool.not_true, Bool.false_eq_true, if_false]
    rw [h1]
    by_cases h0 : errF inn ms d = 0
    · rw [h0]; simp; omega
    · simp [h0]
theorem code0 {inn : Bool} {e : Int} {ms : List Dv} {d : Dv} (hm : mayF e ms = true) (he : e < 1099511627776) : codeF inn e ms [d] = 0 ↔ d.big = false ∧ inF ms d ≠ inn := by
  rw [code1 hm he]
  unfold errF
  cases hb : d.big with
  | true => simp
  | false =>
    simp only [Bool.false_eq_true, if_false, true_and]
    split
    · rename_i h
      simp only [h, ne_eq, not_true, iff_false]
      split <;> omega
    · rename_i h; simp [h]
theorem out0 {inn : Bool} {e : Int} {ms : List Dv} {d : Dv} (hm : mayF e ms = true) (h : codeF inn e ms [d] = 0) : outMs inn e ms [d] = nxtF inn ms d := by
  unfold outMs
  rw [if_pos h]
  unfold codeF at h
  rw [hm] at h
  have h1 : runF inn ms [d] = if errF inn ms d ≠ 0 then (errF inn ms d, []) else (0, nxtF inn ms d) := rfl
  by_cases h0 : errF inn ms d = 0
  · rw [h1, if_neg (by simp [h0])]
  · rw [h1, if_pos h0] at h
    simp [h0] at h
    split at h <;> omega
theorem outR0 {inn : Bool} {r : Rs} {ms : List Dv} {d : Dv} {y : Value} (h : codeF inn r.e ms [d] = 0) : outRs inn r ms [d] y = ⟨r.g, r.e + 1, y⟩ := by
  unfold outRs
  rw [if_pos h]
theorem nxt_mem {inn : Bool} {ms : List Dv} {d x : Dv} (h : Good ms) (hne : inF ms d ≠ inn) : x ∈ nxtF inn ms d ↔ if x = d then inn = true else x ∈ ms := by
  unfold nxtF
  rw [if_neg hne]
  cases inn with
  | true =>
    simp only [if_true, ins_mem]
    by_cases e : x = d
    · simp [e]
    · simp [e]
  | false =>
    have hm : d ∈ ms := by
      cases hh : inF ms d with
      | true => exact of_decide_eq_true hh
      | false => exact absurd hh hne
    simp only [Bool.false_eq_true, if_false, del_mem h.up h.ok hm]
    by_cases e : x = d
    · simp [e]
    · simp [e]
theorem nxt_in {inn : Bool} {ms : List Dv} {d : Dv} (h : Good ms) (hne : inF ms d ≠ inn) : inF (nxtF inn ms d) d = inn := by
  have := nxt_mem (x := d) h hne
  simp only [if_true] at this
  unfold inF
  cases inn with
  | true => exact decide_eq_true (this.2 rfl)
  | false => exact decide_eq_false (fun e => by have := this.1 e; cases this)
theorem nxt_back {inn : Bool} {ms : List Dv} {d : Dv} (h : Good ms) (hd : d.ok) (hne : inF ms d ≠ inn) : nxtF (!inn) (nxtF inn ms d) d = ms := by
  have h1 := nxt_in h hne
  have hg := nxt_good (inn := inn) h hd
  have hne2 : inF (nxtF inn ms d) d ≠ !inn := by rw [h1]; cases inn <;> simp
  refine up_ext (nxt_good hg hd).up h.up fun x => ?_
  rw [nxt_mem hg hne2, nxt_mem h hne]
  by_cases e : x = d
  · subst e
    simp only [if_true]
    unfold inF at hne
    cases inn <;> simp at hne ⊢ <;> exact hne
  · simp [e]
theorem fol_step {inn : Bool} {g : List Int} {e : Int} {v u : Value} {ms : List Dv} {d : Dv} (h : Good ms) (h1 : mayF e ms = true) (h2 : mayF (e + 1) (nxtF inn ms d) = true) (hne : inF ms d ≠ inn) : folF ⟨g, e, v⟩ ⟨g, e + 1, u⟩ ms (nxtF inn ms d) = true := by
  unfold folF
  try dsimp only
  rw [h1, h2, decide_eq_true rfl, decide_eq_true rfl]
  have hin := nxt_in h hne
  have key : ∀ {a b : List Dv}, d ∈ b → inF a d = false → (cameYs a b).isEmpty = false := by
    intro a b hb ha
    have hm : d ∈ cameF a b := List.mem_filter.2 ⟨hb, by simp [ha]⟩
    cases hc : cameYs a b with
    | nil =>
      have : (cameF a b).length = 0 := by have := congrArg List.length hc; simpa [cameYs] using this
      rw [List.eq_nil_of_length_eq_zero this] at hm
      cases hm
    | cons _ _ => rfl
  cases inn with
  | true =>
    have h0 : inF ms d = false := by simpa using hne
    rw [key (of_decide_eq_true hin) h0]; rfl
  | false =>
    have h0 : inF ms d = true := by simpa using hne
    rw [key (a := nxtF false ms d) (b := ms) (of_decide_eq_true h0) hin]; simp

/-! ### The map -/
theorem sub_len {α : Type} [DecidableEq α] : ∀ {xs ys : List α}, xs.Nodup → (∀ x ∈ xs, x ∈ ys) → xs.length ≤ ys.length
  | [], _, _, _ => Nat.zero_le _
  | x :: xs, ys, hn, hs => by
    obtain ⟨h1, h2⟩ := List.nodup_cons.1 hn
    have hx : x ∈ ys := hs x (by simp)
    have := sub_len (xs := xs) (ys := ys.erase x) h2 (fun z hz => (List.mem_erase_of_ne (fun e => h1 (by rw [← e]; exact hz))).2 (hs z (by simp [hz])))
    rw [List.length_erase_of_mem hx] at this
    have hp : 0 < ys.length := List.length_pos_of_mem hx
    rw [List.length_cons]; omega
structure InOk (ms : List Dv) (m : List (Dv × Unit)) : Prop where
  nd : mnd m
  ok : ∀ p ∈ m, p.1.ok
  mem : ∀ d, d ∈ ms ↔ (d, ()) ∈ m
theorem InOk.len {ms : List Dv} {m : List (Dv × Unit)} (h : InOk ms m) (hu : Up ms) : m.length = ms.length := by
  have n1 : ms.Nodup := hu.imp fun {a b} hab => fun e => by rw [e] at hab; omega
  have n2 : (m.map (·.1)).Nodup := List.pairwise_map.2 h.nd
  have a := sub_len (ys := m.map (·.1)) n1 (fun x hx => List.mem_map.2 ⟨_, (h.mem x).1 hx, rfl⟩)
  have b := sub_len (ys := ms) n2 (fun x hx => by
    obtain ⟨p, hp, rfl⟩ := List.mem_map.1 hx
    exact (h.mem p.1).2 hp)
  rw [List.length_map] at a b
  omega
theorem InOk.get {ms : List Dv} {m : List (Dv × Unit)} (h : InOk ms m) (d : Dv) : (mget m d).isSome = inF ms d := by
  unfold inF
  cases hg : mget m d with
  | none =>
    have := mget_none.1 hg
    symm
    exact decide_eq_false fun hd => this _ ((h.mem d).1 hd) rfl
  | some u => exact (decide_eq_true ((h.mem d).2 ((mget_some h.nd).1 hg))).symm
def stepM (inn : Bool) (m : List (Dv × Unit)) (d : Dv) : List (Dv × Unit) := if inn then mput m d () else mdel m d
theorem InOk.step {inn : Bool} {ms : List Dv} {m : List (Dv × Unit)} {d : Dv} (h : InOk ms m) (hg : Good ms) (hd : d.ok) (hne : inF ms d ≠ inn) : InOk (nxtF inn ms d) (stepM inn m d) := by
  unfold stepM
  cases inn with
  | true =>
    refine ⟨mput_nd h.nd _ _, fun p hp => ?_, fun x => ?_⟩
    · rcases mput_mem.1 hp with rfl | ⟨hp, _⟩
      · exact hd
      · exact h.ok p hp
    · simp only [if_true]
      rw [nxt_mem hg hne, mput_mem]
      by_cases e : x = d
      · simp [e]
      · simp [e, h.mem x]
  | false =>
    refine ⟨mdel_nd h.nd _, fun p hp => h.ok p (mdel_mem.1 hp).1, fun x => ?_⟩
    simp only [Bool.false_eq_true, if_false]
    rw [nxt_mem hg hne, mdel_mem]
    by_cases e : x = d
    · simp [e]
    · simp [e, h.mem x]
theorem Rs.setE {g : List Int} {e e2 : Int} {v : Value} (h : g.length = 16) : (Rs.mk g e v).cells.set 16 (.int .u64 e2) = (Rs.mk g e2 v).cells := by
  unfold Rs.cells
  rw [List.set_append_right _ _ (by rw [ints_length]; dsimp only; omega), ints_length, h]
  rfl

set_option maxHeartbeats 1600000 in
set_option maxRecDepth 100000 in
theorem rosterSets_any (g : List Int) (hgl : g.length = 16) (hgb : ∀ x ∈ g, 0 ≤ x ∧ x < 256) (hd : Dv) (hho : hd.ok) (l : List Dq) (hl : ∀ x ∈ l, x.d.ok) (lv : Value) (w : World) (hw : OK w (fpL [rdR lv 3 l.length (vcs Dq.val l)]) [rdR lv 3 l.length (vcs Dq.val l)] w) :
    Fn Try.prog 4 [.agg (ints .u8 g).toArray, hd.val, lv] [rdR lv 3 l.length (vcs Dq.val l)] w (fun _ : Unit => True) (fun _ => .bool true) (fun _ => []) := by
  obtain ⟨bo, cap2, rfl, hcap2, hml2⟩ := (hw.get .head).form
  have rall : ∀ {r : Rs}, r.g.length = 16 → (r.cells.drop 0).take 18 = r.cells := fun hg => by rw [List.drop_zero, List.take_of_length_le (by rw [Rs.len18 hg]; omega)]
  refine enterF Try.func4 rfl Try.ntmps4 rfl hw ?_
  refine WC.seq ?_
  refine WC.region ?_
  refine WL.to (To.box (cs := ints .u8 g) rfl rfl) rfl ?_ -- t3
  intro b3
  refine WL.to (To.box (cs := hd.cells) rfl rfl) rfl ?_ -- t4
  intro b4
  refine WL.y (Yl.assign rfl) rfl ?_ -- t6
  refine WL.nil ?_
  refine WC.seq ?_
  refine WC.seq ?_
  refine WC.region ?_
  refine WL.callC (xs := []) (cap := []) rfl rfl en6 (by repeat (first | exact TakeL.nil | (apply TakeL.cons; · repeat (first | exact Take1.head | apply Take1.tail)))) (fun w hw => known_any w hw.left.here) rfl ?_ -- t22 hailer/hailerlaw23.known
  rintro ⟨⟩ -
  refine WL.y (Yl.not rfl) rfl ?_ -- t23
  refine WL.know (t := 23) (b' := false) rfl (by first | rfl | (simp; done) | (simp; omega)) ?_
  refine WL.nil ?_
  refine WC.condF rfl (by first | rfl | (simp; done) | (simp; omega)) ?_
  refine WC.skip ?_
  refine WC.seq ?_
  refine WC.region ?_
  refine WL.y (Yl.loadN ag23 rfl (by repeat (first | exact Take1.head | apply Take1.tail)) (by rw [ints_length, hgl]; rfl) (show ((ints .u8 g).drop 0).take 16 = ints .u8 g by rw [List.drop_zero, List.take_of_length_le (by rw [ints_length]; omega)])) rfl ?_ -- t25
  refine WL.y (Yl.loadN ag31 rfl (by repeat (first | exact Take1.head | apply Take1.tail)) (by rfl) (by rfl)) rfl ?_ -- t26
  refine WL.callC (xs := [.tmp 25, .tmp 26]) (cap := []) rfl rfl en13 (by repeat (first | exact TakeL.nil | (apply TakeL.cons; · repeat (first | exact Take1.head | apply Take1.tail)))) (fun w hw => new_any g hgl hd w hw.left.here) rfl ?_ -- t27 hailer/roster.New
  intro y27 hy27
  refine WL.y (Yl.move rfl) rfl ?_ -- t24
  have hn1 : (nwRs g hd y27).g.length = 16 := by unfold nwRs; split; rfl; exact hgl
  have hn2 : ∀ u ∈ (nwRs g hd y27).cells, u.oneCell' = true := by unfold nwRs; split; exact Rs.one rfl; exact Rs.one (sliceOne hy27)
  refine WL.y (Yl.extract rfl rfl) rfl ?_ -- t28
  refine WL.y (Yl.extract rfl rfl) rfl ?_ -- t29
  refine WL.to (To.alloc (cs := Rs.zero.cells) zr27 rfl) rfl ?_ -- t7
  intro b7
  refine WL.sto (Sto.agg sz27 rfl rfl (by repeat (first | exact Take1.head | apply Take1.tail)) hn2 (Rs.len18 hn1) (by rfl) (Rs.put (r := Rs.zero) rfl)) (fun _ h => nomatch h) ?_ -- st 1
  refine WL.y (Yl.assign rfl) rfl ?_ -- t8
  refine WL.nil ?_
  refine WC.seq ?_
  refine WC.seq ?_
  refine WC.region ?_
  refine WL.y (Yl.move rfl) rfl ?_ -- t30
  refine WL.y (Yl.len un39 rfl) rfl ?_ -- t31
  refine WL.y (Yl.gtr rfl rfl) rfl ?_ -- t32
  refine WL.y (Yl.move rfl) rfl ?_ -- t33
  refine WL.both (t := 33) rfl (fun g33 => ?_) (fun g33 => ?_)
  · refine WL.off rfl rfl rfl rfl ?_ -- t34
    refine WL.off rfl rfl rfl rfl ?_ -- t35
    refine WL.y (Yl.pickT rfl rfl) rfl ?_ -- t36
    refine WL.nil ?_
    refine WC.condT rfl (by first | rfl | (simp; done) | (simp; omega)) ?_
    refine WC.seq ?_
    refine WC.region ?_
    refine WL.y (Yl.assign rfl) rfl ?_ -- t6
    refine WL.nil ?_
    refine WC.ret ?_
    repeat (first | (with_reducible refine peelT ?_) | (with_reducible refine peelB ?_) | (with_reducible refine peelTX ?_) | (with_reducible refine peelBX ?_) | (with_reducible refine peelBN ?_) | (with_reducible refine peelBO rfl ?_))
    exact ret1 (.inr rfl) Try.results4 rfl fun w' h => ⟨(), trivial, rfl, h.sub (by repeat (first | exact TakeL.nil | (apply TakeL.cons; · repeat (first | exact Take1.head | apply Take1.tail))))⟩
  · refine WL.on rfl rfl ?_
    refine WL.y (Yl.move rfl) rfl ?_ -- t34
    refine WL.on rfl rfl ?_
    refine WL.y (Yl.neq rfl rfl) rfl ?_ -- t35
    refine WL.y (Yl.pickF rfl rfl) rfl ?_ -- t36
    refine WL.nil ?_
    refine WC.condD rfl (fun g36 => ?_) (fun g36 => ?_)
    · refine WC.seq ?_
      refine WC.region ?_
      refine WL.y (Yl.assign rfl) rfl ?_ -- t6
      refine WL.nil ?_
      refine WC.ret ?_
      repeat (first | (with_reducible refine peelT ?_) | (with_reducible refine peelB ?_) | (with_reducible refine peelTX ?_) | (with_reducible refine peelBX ?_) | (with_reducible refine peelBN ?_) | (with_reducible refine peelBO rfl ?_))
      exact ret1 (.inr rfl) Try.results4 rfl fun w' h => ⟨(), trivial, rfl, h.sub (by repeat (first | exact TakeL.nil | (apply TakeL.cons; · repeat (first | exact Take1.head | apply Take1.tail))))⟩
    · refine WC.skip ?_
      refine WC.seq ?_
      have hll : l.length ≤ 200 := by have := of_decide_eq_false g33; omega
      have hhb : hd.big = false := by
        cases hb : hd.big with
        | false => rfl
        | true => unfold nwE at g36; rw [hb] at g36; simp at g36
      rw [show nwRs g hd y27 = ⟨g, 1, y27⟩ by unfold nwRs; rw [hhb]; rfl, show nwMs hd = [hd] by unfold nwMs; rw [hhb]; rfl]
      refine WC.view (fun w h => h.readOnly (v := y27) (by repeat (first | exact Take1.head | apply Take1.tail))) ?_
      refine WC.region ?_
      have hin0 : InOk [hd] (mput [] hd ()) := by
        refine ⟨mput_nd .nil _ _, fun p hp => ?_, fun d => by simp [mput_mem]⟩
        rcases mput_mem.1 hp with rfl | ⟨hp, _⟩
        · exact hho
        · cases hp
      refine WL.to (To.makeMap Dv.val vvU) rfl ?_ -- t37
      intro b37
      refine WL.y (Yl.loadN ag31 rfl (by repeat (first | exact Take1.head | apply Take1.tail)) (by rfl) (by rfl)) rfl ?_ -- t38
      refine WL.y (Yl.build rfl (cs := []) (fun _ => by kernel_rfl)) rfl ?_ -- t39
      refine WL.sto (Sto.mapIns (Sto.mapPut (v := ()) (q := hd) (m := []) (kv := Dv.val) keyDv un42 (fun p hp => nomatch hp) rfl rfl hho rfl (by repeat (first | exact Take1.head | apply Take1.tail)))) (fun _ h => nomatch h) ?_ -- st 2
      refine WL.y (Yl.move rfl) rfl ?_ -- t40
      refine WL.y (Yl.assign rfl) rfl ?_ -- t9
      refine WL.nil ?_
      refine WC.seq ?_
      refine WC.seq ?_
      refine WC.region ?_
      refine WL.y (Yl.move rfl) rfl ?_ -- t41
      refine WL.y (Yl.len un39 rfl) rfl ?_ -- t42
      refine WL.y (Yl.move rfl) rfl ?_ -- t43
      refine WL.nil ?_
      refine WC.block ?_
      refine WC.loop (α := Nat × Int × List Dv × Value × List (Dv × Unit)) (fun s => [(7, .pointer (some ⟨b7, 0, none⟩)), (9, .map (some b37)), (41, .slice bo l.length cap2), (42, .int .i64 (l.length : Int)), (43, .int .i64 (s.1 : Int))]) (fun s => [blkR b7 27 (Rs.mk g s.2.1 s.2.2.2.1).cells, rdR s.2.2.2.1 2 s.2.2.1.length (vcs Dv.val s.2.2.1), mapR Dv.val vvU b37 s.2.2.2.2, rdR (.slice bo l.length cap2) 3 l.length (vcs Dq.val l)])
        (fun s => s.1 ≤ l.length ∧ 1 ≤ s.2.1 ∧ s.2.1 ≤ (s.1 : Int) + 1 ∧ Good s.2.2.1 ∧ Small s.2.2.1 ∧ InOk s.2.2.1 s.2.2.2.2) (fun s => l.length - s.1) (0, 1, [hd], y27, mput [] hd ())
        ⟨Nat.zero_le _, by dsimp only; omega, by dsimp only; omega, ⟨List.pairwise_singleton _ _, fun x hx => by rw [List.mem_singleton.1 hx]; exact hho⟩, ⟨fun x hx => by rw [List.mem_singleton.1 hx]; exact hhb⟩, hin0⟩ ⟨(by repeat (first | exact Sub.nil | refine Sub.cons rfl ?_)), _, (by repeat (first | exact TakeL.nil | (apply TakeL.cons; · repeat (first | exact Take1.head | apply Take1.tail))))⟩ ?_
      rintro ⟨k, e, ms, v, m⟩ ⟨hk, he1, he2, hG, hS, hM⟩
      dsimp only at hk he1 he2 hG hS hM ⊢
      refine WC.seq ?_
      refine WC.region ?_
      refine WL.y (Yl.lss rfl rfl) rfl ?_ -- t44
      refine WL.nil ?_
      refine WC.seq ?_
      refine WC.condD rfl (fun g44 => ?_) (fun g44 => ?_)
      · refine WC.skip ?_
        refine WC.seq ?_
        refine WC.block ?_
        refine WC.seq ?_
        obtain ⟨x, hxx⟩ : ∃ x, l[k]? = some x := ⟨_, List.getElem?_eq_getElem (by omega)⟩
        have hxo := hl x (List.mem_of_getElem? hxx)
        have hlen := up_len hG hS
        have hmay : mayF e ms = true := (mayF_iff hG.ok).2 ⟨he1, by omega, hlen, small_iff.2 hS, hG⟩
        have hro : (Rs.mk g e v).ok := ⟨hgl, hgb, by show 0 ≤ e; omega, by show e < _; omega⟩
        have hox : DOk [x.d] := fun z hz => by rw [List.mem_singleton.1 hz]; exact hxo
        refine WC.region ?_
        refine WL.y (Yl.index un39 sz44 rfl rfl (Reads.of RdOf.rd' (by repeat (first | exact Take1.head | apply Take1.tail))) rfl (by omega)) rfl ?_ -- t45
        refine WL.y (Yl.loadV (j := k) (u := x) dqV dqAll rfl (Reads.of RdOf.rd' (by repeat (first | exact Take1.head | apply Take1.tail))) rfl hxx) rfl ?_
        refine WL.to (To.alloc (cs := [.int .u8 0, .int .u8 0, .bool false]) zr44 rfl) rfl ?_ -- t11
        intro b11
        refine WL.sto (Sto.agg sz44 rfl rfl (by repeat (first | exact Take1.head | apply Take1.tail)) (Dq.ones x) rfl (by rfl) (show _ = x.cells from rfl)) (fun _ h => nomatch h) ?_ -- st 3
        refine WL.nil ?_
        refine WC.seq ?_
        refine WC.region ?_
        refine WL.y (Yl.move rfl) rfl ?_ -- t48
        refine WL.y (Yl.field fo44_0 rfl) rfl ?_ -- t49
        refine WL.y (Yl.loadN ag31 rfl (by repeat (first | exact Take1.head | apply Take1.tail)) (by rfl) (show _ = x.d.cells from rfl)) rfl ?_ -- t50
        refine WL.y (Yl.lookupOk (kv := Dv.val) keyDv un42 (fun _ => by kernel_rfl) (z := .agg #[]) (m := m) hM.ok rfl rfl hxo (MReads.of (m := m) MapOf.own (by repeat (first | exact Take1.head | apply Take1.tail)))) rfl ?_ -- t51
        refine WL.y (Yl.move rfl) rfl ?_ -- t47
        refine WL.y (Yl.extract rfl rfl) rfl ?_ -- t52
        refine WL.say (t := 52) (v' := .agg ([] : List Value).toArray) rfl (by cases mget m x.d <;> rfl) ?_
        refine WL.y (Yl.extract rfl rfl) rfl ?_ -- t53
        refine WL.say (t := 53) (v' := .bool (inF ms x.d)) rfl (by rw [← hM.get]; rfl) ?_
        refine WL.to (To.alloc (cs := []) zr41 rfl) rfl ?_ -- t12
        intro b12
        refine WL.sto (Sto.agg sz41 rfl rfl (by repeat (first | exact Take1.head | apply Take1.tail)) (fun _ h => nomatch h) rfl (by rfl) (show _ = ([] : List Value) from rfl)) (fun _ h => nomatch h) ?_ -- st 4
        refine WL.y (Yl.assign rfl) rfl ?_ -- t13
        refine WL.nil ?_
        refine WC.seq ?_
        refine WC.region ?_
        refine WL.y (Yl.loadN ag27 rfl (by repeat (first | exact Take1.head | apply Take1.tail)) (by rw [Rs.len18 hgl]; rfl) (rall hgl)) rfl ?_ -- t55
        refine WL.y (Yl.field fo44_0 rfl) rfl ?_ -- t56
        refine WL.y (Yl.loadN ag31 rfl (by repeat (first | exact Take1.head | apply Take1.tail)) (by rfl) (show _ = x.d.cells from rfl)) rfl ?_ -- t57
        refine WL.to (To.buildSlice (vs := [x.d.val]) un25 zs31 rfl rfl (by intro u hu; simp at hu; subst hu; rfl) (by decide) (by decide)) rfl ?_ -- t58
        intro b58
        refine WL.callC (xs := [.tmp 55, .tmp 58]) (cap := []) rfl rfl en8 (by repeat (first | exact TakeL.nil | (apply TakeL.cons; · repeat (first | exact Take1.head | apply Take1.tail)))) (fun w hw => with_any (Rs.mk g e v) hro ms [x.d] _ hG.ok hox (by simp; omega) w (hw.src (A := []) RdOf.rd' (by repeat (first | exact Take1.head | apply Take1.tail))) (hw.src (A := []) dev1 (by repeat (first | exact Take1.head | apply Take1.tail))) hw.left.here) rfl ?_ -- t59 hailer/roster.With
        intro y59 hy59
        refine WL.y (Yl.move rfl) rfl ?_ -- t54
        refine WL.y (Yl.extract rfl rfl) rfl ?_ -- t60
        refine WL.y (Yl.extract rfl rfl) rfl ?_ -- t61
        refine WL.to (To.alloc (cs := Rs.zero.cells) zr27 rfl) rfl ?_ -- t14
        intro b14
        refine WL.sto (Sto.agg sz27 rfl rfl (by repeat (first | exact Take1.head | apply Take1.tail)) (outRs_one hy59.sl) (Rs.len18 (outRs_len hgl)) (by rfl) (Rs.put (r := Rs.zero) rfl)) (fun _ h => nomatch h) ?_ -- st 5
        refine WL.y (Yl.assign rfl) rfl ?_ -- t15
        refine WL.nil ?_
        refine WC.midX (α := Value) (fun y => [(11, .pointer (some ⟨b11, 0, none⟩)), (13, .bool (inF ms x.d)), (14, .pointer (some ⟨b14, 0, none⟩)), (15, .int .i64 (codeF x.inn e ms [x.d])), (7, .pointer (some ⟨b7, 0, none⟩)), (9, .map (some b37)), (41, .slice bo l.length cap2), (42, .int .i64 (l.length : Int)), (43, .int .i64 (k : Int))]) (fun y => [blkR b7 27 (Rs.mk g e v).cells, rdR v 2 ms.length (vcs Dv.val ms), mapR Dv.val vvU b37 m, blkR b11 44 x.cells, rdR (.slice bo l.length cap2) 3 l.length (vcs Dq.val l), blkR b14 27 (outRs x.inn (Rs.mk g e v) ms [x.d] y).cells, ownR y 31 2 (outMs x.inn e ms [x.d]).length (vcs Dv.val (outMs x.inn e ms [x.d]))]) (fun y => OutOk x.inn (Rs.mk g e v) ms [x.d] y) ?_ ?_
        · refine WC.seq ?_
          refine WC.region ?_
          refine WL.y (Yl.field fo44_1 rfl) rfl ?_ -- t62
          refine WL.y (Yl.load on4 rfl (by repeat (first | exact Take1.head | apply Take1.tail)) (by rfl)) rfl ?_ -- t63
          refine WL.y (Yl.not rfl) rfl ?_ -- t64
          refine WL.nil ?_
          refine WC.cond rfl (fun g64 => ?_) (fun g64 => ?_)
          · refine WC.region ?_
            refine WL.y (Yl.loadN ag27 rfl (by repeat (first | exact Take1.head | apply Take1.tail)) (by rw [Rs.len18 hgl]; rfl) (rall hgl)) rfl ?_ -- t66
            refine WL.y (Yl.field fo44_0 rfl) rfl ?_ -- t67
            refine WL.y (Yl.loadN ag31 rfl (by repeat (first | exact Take1.head | apply Take1.tail)) (by rfl) (show _ = x.d.cells from rfl)) rfl ?_ -- t68
            refine WL.to (To.buildSlice (vs := [x.d.val]) un25 zs31 rfl rfl (by intro u hu; simp at hu; subst hu; rfl) (by decide) (by decide)) rfl ?_ -- t69
            intro b69
            refine WL.callC (xs := [.tmp 66, .tmp 69]) (cap := []) rfl rfl en9 (by repeat (first | exact TakeL.nil | (apply TakeL.cons; · repeat (first | exact Take1.head | apply Take1.tail)))) (fun w hw => without_any (Rs.mk g e v) hro ms [x.d] _ hG.ok hox (by simp; omega) w (hw.src (A := []) RdOf.rd' (by repeat (first | exact Take1.head | apply Take1.tail))) (hw.src (A := []) dev1 (by repeat (first | exact Take1.head | apply Take1.tail))) hw.left.here) rfl ?_ -- t70 hailer/roster.Without
            intro y70 hy70
            refine WL.y (Yl.move rfl) rfl ?_ -- t65
            refine WL.y (Yl.extract rfl rfl) rfl ?_ -- t71
            refine WL.y (Yl.extract rfl rfl) rfl ?_ -- t72
            refine WL.sto (Sto.agg sz27 rfl rfl (by repeat (first | exact Take1.head | apply Take1.tail)) (outRs_one hy70.sl) (Rs.len18 (outRs_len hgl)) (by rw [Rs.len18 (outRs_len hgl)]; rfl) (Rs.put (outRs_len hgl))) (fun _ h => nomatch h) ?_ -- st 6
            refine WL.y (Yl.assign rfl) rfl ?_ -- t15
            refine WL.nil ?_
            have hi : x.inn = false := by simpa using g64
            rw [hi]
            exact ⟨rfl, y70, hy70, (by repeat (first | exact Sub.nil | refine Sub.cons rfl ?_)), _, (by repeat (first | exact TakeL.nil | (apply TakeL.cons; · repeat (first | exact Take1.head | apply Take1.tail))))⟩
          · refine WC.skip ?_
            have hi : x.inn = true := by simpa using g64
            rw [hi]
            exact ⟨rfl, y59, hy59, (by repeat (first | exact Sub.nil | refine Sub.cons rfl ?_)), _, (by repeat (first | exact TakeL.nil | (apply TakeL.cons; · repeat (first | exact Take1.head | apply Take1.tail))))⟩
        · rintro y14 hy14
          try dsimp only
          have hcode0 := code0 (inn := x.inn) (d := x.d) hmay (by omega)
          refine WC.view (fun w h => h.readOnly (v := y14) (by repeat (first | exact Take1.head | apply Take1.tail))) ?_
          refine WC.midK [(16, .bool (!x.d.big))] [blkR b7 27 (Rs.mk g e v).cells, rdR v 2 ms.length (vcs Dv.val ms), mapR Dv.val vvU b37 m, blkR b11 44 x.cells, rdR (.slice bo l.length cap2) 3 l.length (vcs Dq.val l), blkR b14 27 (outRs x.inn (Rs.mk g e v) ms [x.d] y14).cells, rdR y14 2 (outMs x.inn e ms [x.d]).length (vcs Dv.val (outMs x.inn e ms [x.d]))] ?_ ?_
          · refine WC.region ?_
            refine WL.y (Yl.field fo44_0 rfl) rfl ?_ -- t73
            refine WL.y (Yl.field fo31_0 rfl) rfl ?_ -- t74
            refine WL.y (Yl.load on5 rfl (by repeat (first | exact Take1.head | apply Take1.tail)) (by rfl)) rfl ?_ -- t75
            refine WL.y (Yl.lss rfl rfl) rfl ?_ -- t76
            refine WL.y (Yl.move rfl) rfl ?_ -- t77
            refine WL.both (t := 77) rfl (fun g77 => ?_) (fun g77 => ?_)
            · refine WL.on rfl rfl ?_
              refine WL.y (Yl.field fo44_0 rfl) rfl ?_ -- t78
              refine WL.on rfl rfl ?_
              refine WL.y (Yl.field fo31_1 rfl) rfl ?_ -- t79
              refine WL.on rfl rfl ?_
              refine WL.y (Yl.load on5 rfl (by repeat (first | exact Take1.head | apply Take1.tail)) (by rfl)) rfl ?_ -- t80
              refine WL.on rfl rfl ?_
              refine WL.y (Yl.lss rfl rfl) rfl ?_ -- t81
              refine WL.y (Yl.pickT rfl rfl) rfl ?_ -- t82
              refine WL.say (t := 82) (v' := .bool (!x.d.big)) rfl (by (have q := of_decide_eq_true g77; unfold Dv.big; rw [show decide (8 ≤ x.d.a) = false from decide_eq_false (by omega), Bool.false_or, ← decide_not]; congr 1; rw [decide_eq_decide]; omega)) ?_
              refine WL.y (Yl.assign rfl) rfl ?_ -- t16
              refine WL.nil ?_
              exact ⟨rfl, (by repeat (first | exact Sub.nil | refine Sub.cons rfl ?_)), (by repeat (first | exact Sub.nil | refine Sub.cons rfl ?_)), _, (by repeat (first | exact TakeL.nil | (apply TakeL.cons; · repeat (first | exact Take1.head | apply Take1.tail))))⟩
            · refine WL.off rfl rfl rfl rfl ?_ -- t78
              refine WL.off rfl rfl rfl rfl ?_ -- t79
              refine WL.off rfl rfl rfl rfl ?_ -- t80
              refine WL.off rfl rfl rfl rfl ?_ -- t81
              refine WL.y (Yl.pickF rfl rfl) rfl ?_ -- t82
              refine WL.say (t := 82) (v' := .bool (!x.d.big)) rfl (by (have q := of_decide_eq_false g77; unfold Dv.big; rw [show decide (8 ≤ x.d.a) = true from decide_eq_true (by omega)]; rfl)) ?_
              refine WL.y (Yl.assign rfl) rfl ?_ -- t16
              refine WL.nil ?_
              exact ⟨rfl, (by repeat (first | exact Sub.nil | refine Sub.cons rfl ?_)), (by repeat (first | exact Sub.nil | refine Sub.cons rfl ?_)), _, (by repeat (first | exact TakeL.nil | (apply TakeL.cons; · repeat (first | exact Take1.head | apply Take1.tail))))⟩
          · refine WC.seq ?_
            refine WC.midK [(92, .bool false)] [blkR b7 27 (Rs.mk g e v).cells, rdR v 2 ms.length (vcs Dv.val ms), mapR Dv.val vvU b37 m, blkR b11 44 x.cells, rdR (.slice bo l.length cap2) 3 l.length (vcs Dq.val l), blkR b14 27 (outRs x.inn (Rs.mk g e v) ms [x.d] y14).cells, rdR y14 2 (outMs x.inn e ms [x.d]).length (vcs Dv.val (outMs x.inn e ms [x.d]))] ?_ ?_
            · refine WC.region ?_
              refine WL.y (Yl.move rfl) rfl ?_ -- t83
              refine WL.y (Yl.eql rfl rfl) rfl ?_ -- t84
              refine WL.y (Yl.move rfl) rfl ?_ -- t85
              refine WL.y (Yl.move rfl) rfl ?_ -- t86
              refine WL.both (t := 86) rfl (fun g86 => ?_) (fun g86 => ?_)
              · refine WL.on rfl rfl ?_
                refine WL.y (Yl.move rfl) rfl ?_ -- t87
                refine WL.on rfl rfl ?_
                refine WL.y (Yl.field fo44_1 rfl) rfl ?_ -- t88
                refine WL.on rfl rfl ?_
                refine WL.y (Yl.load on4 rfl (by repeat (first | exact Take1.head | apply Take1.tail)) (by rfl)) rfl ?_ -- t89
                refine WL.on rfl rfl ?_
                refine WL.y (Yl.bNe un4 rfl rfl) rfl ?_ -- t90
                refine WL.y (Yl.pickT rfl rfl) rfl ?_ -- t91
                refine WL.y (Yl.bNe un4 rfl rfl) rfl ?_ -- t92
                refine WL.say (t := 92) (v' := .bool false) rfl (by (have q : x.d.big = false := (by simpa using g86); refine congrArg _ ?_; by_cases hc : codeF x.inn e ms [x.d] = 0; (have := (hcode0.1 hc).2; rw [decide_eq_true hc]; simpa using this); (have : ¬ inF ms x.d ≠ x.inn := (fun h => hc (hcode0.2 ⟨q, h⟩)); rw [decide_eq_false hc]; simpa using this))) ?_
                refine WL.nil ?_
                exact ⟨rfl, (by repeat (first | exact Sub.nil | refine Sub.cons rfl ?_)), (by repeat (first | exact Sub.nil | refine Sub.cons rfl ?_)), _, (by repeat (first | exact TakeL.nil | (apply TakeL.cons; · repeat (first | exact Take1.head | apply Take1.tail))))⟩
              · refine WL.off rfl rfl rfl rfl ?_ -- t87
                refine WL.off rfl rfl rfl rfl ?_ -- t88
                refine WL.off rfl rfl rfl rfl ?_ -- t89
                refine WL.off rfl rfl rfl rfl ?_ -- t90
                refine WL.y (Yl.pickF rfl rfl) rfl ?_ -- t91
                refine WL.y (Yl.bNe un4 rfl rfl) rfl ?_ -- t92
                refine WL.say (t := 92) (v' := .bool false) rfl (by (have q : x.d.big = true := (by simpa using g86); refine congrArg _ ?_; rw [decide_eq_false (fun h => by rw [(hcode0.1 h).1] at q; cases q)]; rfl)) ?_
                refine WL.nil ?_
                exact ⟨rfl, (by repeat (first | exact Sub.nil | refine Sub.cons rfl ?_)), (by repeat (first | exact Sub.nil | refine Sub.cons rfl ?_)), _, (by repeat (first | exact TakeL.nil | (apply TakeL.cons; · repeat (first | exact Take1.head | apply Take1.tail))))⟩
            · refine WC.condF rfl (by first | rfl | (simp; done) | (simp; omega)) ?_
              refine WC.skip ?_
              refine WC.seq ?_
              refine WC.seq ?_
              refine WC.region ?_
              refine WL.y (Yl.move rfl) rfl ?_ -- t93
              refine WL.y (Yl.neq rfl rfl) rfl ?_ -- t94
              refine WL.nil ?_
              refine WC.condD rfl (fun g94 => ?_) (fun g94 => ?_)
              · refine WC.exit ?_
                refine WC.region ?_
                refine WL.y (Yl.add rfl rfl (IntWalk.i64_in _ (by omega))) rfl ?_ -- t175
                refine WL.y (Yl.move rfl) rfl ?_ -- t43
                refine WL.nil ?_
                exact ⟨rfl, (k + 1, e, ms, v, m), ⟨by dsimp only; omega, he1, by dsimp only; omega, hG, hS, hM⟩, by dsimp only; omega, (by repeat (first | exact Sub.nil | refine Sub.cons rfl ?_)), _, (by repeat (first | exact TakeL.nil | (apply TakeL.cons; · repeat (first | exact Take1.head | apply Take1.tail))))⟩
              · refine WC.skip ?_
                refine WC.seq ?_
                have hc0 : codeF x.inn e ms [x.d] = 0 := Classical.not_not.1 g94
                obtain ⟨hdb, hne⟩ := hcode0.1 hc0
                have hoR : ∀ y, outRs x.inn (Rs.mk g e v) ms [x.d] y = ⟨g, e + 1, y⟩ := fun y => outR0 (r := (Rs.mk g e v)) hc0
                have hoM : outMs x.inn e ms [x.d] = nxtF x.inn ms x.d := out0 hmay hc0
                rw [hoR, hoM]
                obtain ⟨ns, hns⟩ : ∃ ns, ns = nxtF x.inn ms x.d := ⟨_, rfl⟩
                have hG2 : Good ns := hns ▸ nxt_good hG hxo
                have hS2 : Small ns := hns ▸ nxt_small hG hS hdb
                have hlen2 := up_len hG2 hS2
                have hin2 : inF ns x.d = x.inn := hns ▸ nxt_in hG hne
                have hbk : nxtF (!x.inn) ns x.d = ms := by rw [hns]; exact nxt_back hG hxo hne
                have hmay2 : mayF (e + 1) ns = true := (mayF_iff hG2.ok).2 ⟨by omega, by omega, hlen2, small_iff.2 hS2, hG2⟩
                have hro2 : (Rs.mk g (e + 1) y14).ok := ⟨hgl, hgb, by show 0 ≤ e + 1; omega, by show e + 1 < _; omega⟩
                have hM2 : InOk ns (stepM x.inn m x.d) := hns ▸ hM.step hG hxo hne
                have hfol : folF (Rs.mk g e v) ⟨g, e + 1, y14⟩ ms ns = true := by rw [hns]; exact fol_step hG hmay (hns ▸ hmay2) hne
                have hcb : codeF (!x.inn) (e + 1) ns [x.d] = 0 := (code0 hmay2 (by omega)).2 ⟨hdb, by rw [hin2]; cases x.inn <;> simp⟩
                rw [← hns]
                refine WC.fact (p := ∃ a c, y14 = .slice a ns.length c) (fun w hw => by obtain ⟨a, c, e, _⟩ := Rd.form (hw.get (r := rdR y14 2 ns.length (vcs Dv.val ns)) (by repeat (first | exact Take1.head | apply Take1.tail))); exact ⟨a, c, e⟩) (fun hyf => ?_)
                obtain ⟨a14, c14, e14⟩ := hyf
                subst e14
                refine WC.region ?_
                refine WL.y (Yl.loadN ag27 rfl (by repeat (first | exact Take1.head | apply Take1.tail)) (by rw [Rs.len18 hgl]; rfl) (rall hgl)) rfl ?_ -- t96
                refine WL.y (Yl.field fo44_0 rfl) rfl ?_ -- t97
                refine WL.y (Yl.loadN ag31 rfl (by repeat (first | exact Take1.head | apply Take1.tail)) (by rfl) (show _ = x.d.cells from rfl)) rfl ?_ -- t98
                refine WL.to (To.buildSlice (vs := [x.d.val]) un25 zs31 rfl rfl (by intro u hu; simp at hu; subst hu; rfl) (by decide) (by decide)) rfl ?_ -- t99
                intro b99
                refine WL.callC (xs := [.tmp 96, .tmp 99]) (cap := []) rfl rfl en9 (by repeat (first | exact TakeL.nil | (apply TakeL.cons; · repeat (first | exact Take1.head | apply Take1.tail)))) (fun w hw => without_any (Rs.mk g (e + 1) (.slice a14 ns.length c14)) hro2 ns [x.d] _ hG2.ok hox (by simp; omega) w (hw.src (A := []) RdOf.rd' (by repeat (first | exact Take1.head | apply Take1.tail))) (hw.src (A := []) dev1 (by repeat (first | exact Take1.head | apply Take1.tail))) hw.left.here) rfl ?_ -- t100 hailer/roster.Without
                intro y100 hy100
                refine WL.y (Yl.move rfl) rfl ?_ -- t95
                refine WL.y (Yl.extract rfl rfl) rfl ?_ -- t101
                refine WL.y (Yl.extract rfl rfl) rfl ?_ -- t102
                refine WL.to (To.alloc (cs := Rs.zero.cells) zr27 rfl) rfl ?_ -- t17
                intro b17
                refine WL.sto (Sto.agg sz27 rfl rfl (by repeat (first | exact Take1.head | apply Take1.tail)) (outRs_one hy100.sl) (Rs.len18 (outRs_len hgl)) (by rfl) (Rs.put (r := Rs.zero) rfl)) (fun _ h => nomatch h) ?_ -- st 7
                refine WL.y (Yl.assign rfl) rfl ?_ -- t15
                refine WL.nil ?_
                refine WC.midX (α := Value) (fun y => [(11, .pointer (some ⟨b11, 0, none⟩)), (14, .pointer (some ⟨b14, 0, none⟩)), (17, .pointer (some ⟨b17, 0, none⟩)), (15, .int .i64 (codeF (!x.inn) (e + 1) ns [x.d])), (7, .pointer (some ⟨b7, 0, none⟩)), (9, .map (some b37)), (41, .slice bo l.length cap2), (42, .int .i64 (l.length : Int)), (43, .int .i64 (k : Int))]) (fun y => [blkR b7 27 (Rs.mk g e v).cells, rdR v 2 ms.length (vcs Dv.val ms), mapR Dv.val vvU b37 m, blkR b11 44 x.cells, rdR (.slice bo l.length cap2) 3 l.length (vcs Dq.val l), blkR b14 27 (Rs.mk g (e + 1) (.slice a14 ns.length c14)).cells, rdR (.slice a14 ns.length c14) 2 ns.length (vcs Dv.val ns), blkR b17 27 (outRs (!x.inn) (Rs.mk g (e + 1) (.slice a14 ns.length c14)) ns [x.d] y).cells, ownR y 31 2 (outMs (!x.inn) (e + 1) ns [x.d]).length (vcs Dv.val (outMs (!x.inn) (e + 1) ns [x.d]))]) (fun y => OutOk (!x.inn) (Rs.mk g (e + 1) (.slice a14 ns.length c14)) ns [x.d] y) ?_ ?_
                · refine WC.seq ?_
                  refine WC.region ?_
                  refine WL.y (Yl.field fo44_1 rfl) rfl ?_ -- t103
                  refine WL.y (Yl.load on4 rfl (by repeat (first | exact Take1.head | apply Take1.tail)) (by rfl)) rfl ?_ -- t104
                  refine WL.y (Yl.not rfl) rfl ?_ -- t105
                  refine WL.nil ?_
                  refine WC.cond rfl (fun g105 => ?_) (fun g105 => ?_)
                  · refine WC.region ?_
                    refine WL.y (Yl.loadN ag27 rfl (by repeat (first | exact Take1.head | apply Take1.tail)) (by rw [Rs.len18 hgl]; rfl) (rall hgl)) rfl ?_ -- t107
                    refine WL.y (Yl.field fo44_0 rfl) rfl ?_ -- t108
                    refine WL.y (Yl.loadN ag31 rfl (by repeat (first | exact Take1.head | apply Take1.tail)) (by rfl) (show _ = x.d.cells from rfl)) rfl ?_ -- t109
                    refine WL.to (To.buildSlice (vs := [x.d.val]) un25 zs31 rfl rfl (by intro u hu; simp at hu; subst hu; rfl) (by decide) (by decide)) rfl ?_ -- t110
                    intro b110
                    refine WL.callC (xs := [.tmp 107, .tmp 110]) (cap := []) rfl rfl en8 (by repeat (first | exact TakeL.nil | (apply TakeL.cons; · repeat (first | exact Take1.head | apply Take1.tail)))) (fun w hw => with_any (Rs.mk g (e + 1) (.slice a14 ns.length c14)) hro2 ns [x.d] _ hG2.ok hox (by simp; omega) w (hw.src (A := []) RdOf.rd' (by repeat (first | exact Take1.head | apply Take1.tail))) (hw.src (A := []) dev1 (by repeat (first | exact Take1.head | apply Take1.tail))) hw.left.here) rfl ?_ -- t111 hailer/roster.With
                    intro y111 hy111
                    refine WL.y (Yl.move rfl) rfl ?_ -- t106
                    refine WL.y (Yl.extract rfl rfl) rfl ?_ -- t112
                    refine WL.y (Yl.extract rfl rfl) rfl ?_ -- t113
                    refine WL.sto (Sto.agg sz27 rfl rfl (by repeat (first | exact Take1.head | apply Take1.tail)) (outRs_one hy111.sl) (Rs.len18 (outRs_len hgl)) (by rw [Rs.len18 (outRs_len hgl)]; rfl) (Rs.put (outRs_len hgl))) (fun _ h => nomatch h) ?_ -- st 8
                    refine WL.y (Yl.assign rfl) rfl ?_ -- t15
                    refine WL.nil ?_
                    have hi : x.inn = false := by simpa using g105
                    rw [hi]
                    exact ⟨rfl, y111, hy111, (by repeat (first | exact Sub.nil | refine Sub.cons rfl ?_)), _, (by repeat (first | exact TakeL.nil | (apply TakeL.cons; · repeat (first | exact Take1.head | apply Take1.tail))))⟩
                  · refine WC.skip ?_
                    have hi : x.inn = true := by simpa using g105
                    rw [hi]
                    exact ⟨rfl, y100, hy100, (by repeat (first | exact Sub.nil | refine Sub.cons rfl ?_)), _, (by repeat (first | exact TakeL.nil | (apply TakeL.cons; · repeat (first | exact Take1.head | apply Take1.tail))))⟩
                · rintro y17 hy17
                  try dsimp only
                  rw [outR0 (r := Rs.mk g (e + 1) (.slice a14 ns.length c14)) hcb, out0 hmay2 hcb, hbk, hcb]
                  try dsimp only
                  refine WC.view (fun w h => h.readOnly (v := y17) (by repeat (first | exact Take1.head | apply Take1.tail))) ?_
                  refine WC.seq ?_
                  refine WC.region ?_
                  refine WL.y (Yl.field fo27_1 rfl) rfl ?_ -- t114
                  refine WL.y (Yl.load on24 rfl (by repeat (first | exact Take1.head | apply Take1.tail)) (Rs.at16 hgl)) rfl ?_ -- t115
                  refine WL.y (Yl.field fo27_1 rfl) rfl ?_ -- t116
                  refine WL.sto (Sto.one (cs' := (Rs.mk g e y17).cells) sz24 rfl rfl (by repeat (first | exact Take1.head | apply Take1.tail)) rfl (by rw [Rs.len18 hgl]; rfl) (Rs.setE hgl)) (fun _ h => nomatch h) ?_
                  refine WL.nil ?_
                  refine WC.seq ?_
                  refine WC.midK [(137, .bool false)] [blkR b7 27 (Rs.mk g e v).cells, rdR v 2 ms.length (vcs Dv.val ms), mapR Dv.val vvU b37 m, blkR b11 44 x.cells, rdR (.slice bo l.length cap2) 3 l.length (vcs Dq.val l), blkR b14 27 (Rs.mk g (e + 1) (.slice a14 ns.length c14)).cells, rdR (.slice a14 ns.length c14) 2 ns.length (vcs Dv.val ns)] ?_ ?_
                  · refine WC.drawAny (Hs := [blkR b7 27 (Rs.mk g e v).cells, blkR b14 27 (Rs.mk g (e + 1) (.slice a14 ns.length c14)).cells, blkR b17 27 (Rs.mk g e y17).cells]) mixed (by kernel_rfl) ⟨_, (by repeat (first | exact TakeL.nil | (apply TakeL.cons; · repeat (first | exact Take1.head | apply Take1.tail))))⟩ ?_
                    refine WD.take 0 rfl (by kernel_rfl) (by kernel_rfl) (by kernel_rfl) rfl rfl (Yl.move rfl) rfl ?_ -- t117
                    refine WD.take 1 rfl (by kernel_rfl) (by kernel_rfl) (by kernel_rfl) rfl rfl (Yl.neq rfl rfl) rfl ?_ -- t118
                    refine WD.know (t := 118) (b' := false) rfl (by first | rfl | (simp; done) | (simp; omega)) ?_
                    refine WD.take 2 rfl (by kernel_rfl) (by kernel_rfl) (by kernel_rfl) rfl rfl (Yl.move rfl) rfl ?_ -- t119
                    refine WD.takeOn 3 rfl (by kernel_rfl) (by kernel_rfl) (by kernel_rfl) rfl rfl rfl rfl (Yl.loadN ag27 rfl (by repeat (first | exact Take1.head | apply Take1.tail)) (by rw [Rs.len18 hgl]; rfl) (rall hgl)) rfl ?_ -- t120
                    refine WD.takeOn 4 rfl (by kernel_rfl) (by kernel_rfl) (by kernel_rfl) rfl rfl rfl rfl (Yl.loadN ag27 rfl (by repeat (first | exact Take1.head | apply Take1.tail)) (by rw [Rs.len18 hgl]; rfl) (rall hgl)) rfl ?_ -- t121
                    refine WD.one 5 (by kernel_rfl) ?_
                    refine WO.callC (xs := [.tmp 120, .tmp 121]) (cap := []) rfl (.on rfl rfl) rfl rfl en14 (by repeat (first | exact TakeL.nil | (apply TakeL.cons; · repeat (first | exact Take1.head | apply Take1.tail)))) (fun w hw => follows_any (Rs.mk g e v) (Rs.mk g (e + 1) (.slice a14 ns.length c14)) ms ns hro hro2 hG.ok hG2.ok (by omega) (by omega) w hw.left.here) rfl (fun _ => ⟨_, (by repeat (first | exact TakeL.nil | (apply TakeL.cons; · repeat (first | exact Take1.head | apply Take1.tail))))⟩) ?_ -- t122 hailer/roster.Follows
                    rintro ⟨⟩ -
                    refine WD.know (t := 122) (b' := true) rfl hfol ?_
                    refine WD.takeOn 6 rfl (by kernel_rfl) (by kernel_rfl) (by kernel_rfl) rfl rfl rfl rfl (Yl.not rfl) rfl ?_ -- t123
                    refine WD.take 7 rfl (by kernel_rfl) (by kernel_rfl) (by kernel_rfl) rfl rfl (Yl.pickF rfl rfl) rfl ?_ -- t124
                    refine WD.take 8 rfl (by kernel_rfl) (by kernel_rfl) (by kernel_rfl) rfl rfl (Yl.move rfl) rfl ?_ -- t125
                    refine WD.takeOn 9 rfl (by kernel_rfl) (by kernel_rfl) (by kernel_rfl) rfl rfl rfl rfl (Yl.loadN ag27 rfl (by repeat (first | exact Take1.head | apply Take1.tail)) (by rw [Rs.len18 hgl]; rfl) (rall hgl)) rfl ?_ -- t126
                    refine WD.takeOn 10 rfl (by kernel_rfl) (by kernel_rfl) (by kernel_rfl) rfl rfl rfl rfl (Yl.loadN ag27 rfl (by repeat (first | exact Take1.head | apply Take1.tail)) (by rw [Rs.len18 hgl]; rfl) (rall hgl)) rfl ?_ -- t127
                    refine WD.one 11 (by kernel_rfl) ?_
                    refine WO.callC (xs := [.tmp 126, .tmp 127]) (cap := []) rfl (.on rfl rfl) rfl rfl en11 (by repeat (first | exact TakeL.nil | (apply TakeL.cons; · repeat (first | exact Take1.head | apply Take1.tail)))) (fun w hw => same_any (Rs.mk g e y17) (Rs.mk g e v) ms ms ⟨hgl, hgb, hro.e⟩ hro (by omega) hG.ok hG.ok w (hw.src (A := []) (r := rdR y17 2 ms.length (vcs Dv.val ms)) RdOf.rd' (by repeat (first | exact Take1.head | apply Take1.tail))) (hw.src (A := []) (r := rdR v 2 ms.length (vcs Dv.val ms)) RdOf.rd' (by repeat (first | exact Take1.head | apply Take1.tail))) hw.left.here) rfl (fun _ => ⟨_, (by repeat (first | exact TakeL.nil | (apply TakeL.cons; · repeat (first | exact Take1.head | apply Take1.tail))))⟩) ?_ -- t128 hailer/hailerref23.Same
                    rintro ⟨⟩ -
                    refine WD.know (t := 128) (b' := true) rfl (by first | rfl | (simp; done) | (simp; omega)) ?_
                    refine WD.takeOn 12 rfl (by kernel_rfl) (by kernel_rfl) (by kernel_rfl) rfl rfl rfl rfl (Yl.not rfl) rfl ?_ -- t129
                    refine WD.take 13 rfl (by kernel_rfl) (by kernel_rfl) (by kernel_rfl) rfl rfl (Yl.pickF rfl rfl) rfl ?_ -- t130
                    refine WD.take 14 rfl (by kernel_rfl) (by kernel_rfl) (by kernel_rfl) rfl rfl (Yl.move rfl) rfl ?_ -- t131
                    refine WD.takeOn 15 rfl (by kernel_rfl) (by kernel_rfl) (by kernel_rfl) rfl rfl rfl rfl (Yl.loadN ag27 rfl (by repeat (first | exact Take1.head | apply Take1.tail)) (by rw [Rs.len18 hgl]; rfl) (rall hgl)) rfl ?_ -- t132
                    refine WD.takeOn 17 rfl (by kernel_rfl) (by kernel_rfl) (by kernel_rfl) rfl rfl rfl rfl (Yl.loadN ag27 rfl (by repeat (first | exact Take1.head | apply Take1.tail)) (by rw [Rs.len18 hgl]; rfl) (rall hgl)) rfl ?_ -- t134
                    refine WD.one 16 (by kernel_rfl) ?_
                    refine WO.callC (xs := [.tmp 132]) (cap := []) rfl (.on rfl rfl) rfl rfl en15 (by repeat (first | exact TakeL.nil | (apply TakeL.cons; · repeat (first | exact Take1.head | apply Take1.tail)))) (fun w hw => digest_any (Rs.mk g e y17) ms ⟨hgl, hgb, hro.e⟩ (by omega) w (hw.src (A := []) (r := rdR y17 2 ms.length (vcs Dv.val ms)) RdOf.rd' (by repeat (first | exact Take1.head | apply Take1.tail))) hw.left.here) rfl (fun _ => ⟨_, (by repeat (first | exact TakeL.nil | (apply TakeL.cons; · repeat (first | exact Take1.head | apply Take1.tail))))⟩) ?_ -- t133 hailer/roster.Digest
                    rintro ⟨⟩ -
                    refine WD.one 18 (by kernel_rfl) ?_
                    refine WO.callC (xs := [.tmp 134]) (cap := []) rfl (.on rfl rfl) rfl rfl en15 (by repeat (first | exact TakeL.nil | (apply TakeL.cons; · repeat (first | exact Take1.head | apply Take1.tail)))) (fun w hw => digest_any (Rs.mk g e v) ms hro (by omega) w (hw.src (A := []) (r := rdR v 2 ms.length (vcs Dv.val ms)) RdOf.rd' (by repeat (first | exact Take1.head | apply Take1.tail))) hw.left.here) rfl (fun _ => ⟨_, (by repeat (first | exact TakeL.nil | (apply TakeL.cons; · repeat (first | exact Take1.head | apply Take1.tail))))⟩) ?_ -- t135 hailer/roster.Digest
                    rintro ⟨⟩ -
                    refine WD.takeOn 19 rfl (by kernel_rfl) (by kernel_rfl) (by kernel_rfl) rfl rfl rfl rfl (Yl.neA (xs := ints .u8 (digF (Rs.mk g e y17) ms)) (ys := ints .u8 (digF (Rs.mk g e v) ms)) flatS rfl rfl (digF_fits _ _) (digF_fits _ _)) rfl ?_
                    refine WD.know (t := 136) (b' := false) rfl (by rw [ints_eqV]; simp [digF, digB]) ?_
                    refine WD.take 20 rfl (by kernel_rfl) (by kernel_rfl) (by kernel_rfl) rfl rfl (Yl.pickF rfl rfl) rfl ?_ -- t137
                    refine WD.done (by kernel_rfl) ?_
                    exact ⟨rfl, (by repeat (first | exact Sub.nil | refine Sub.cons rfl ?_)), (by repeat (first | exact Sub.nil | refine Sub.cons rfl ?_)), _, (by repeat (first | exact TakeL.nil | (apply TakeL.cons; · repeat (first | exact Take1.head | apply Take1.tail))))⟩
                  · refine WC.condF rfl (by first | rfl | (simp; done) | (simp; omega)) ?_
                    refine WC.skip ?_
                    refine WC.midE (α := Unit) (fun _ => []) (fun _ => [blkR b7 27 (Rs.mk g (e + 1) (.slice a14 ns.length c14)).cells, rdR (.slice a14 ns.length c14) 2 ns.length (vcs Dv.val ns), mapR Dv.val vvU b37 (stepM x.inn m x.d), rdR (.slice bo l.length cap2) 3 l.length (vcs Dq.val l)]) (fun _ => True) ?_ ?_
                    · refine WC.seq ?_
                      refine WC.region ?_
                      refine WL.y (Yl.loadN ag27 rfl (by repeat (first | exact Take1.head | apply Take1.tail)) (by rw [Rs.len18 hgl]; rfl) (rall hgl)) rfl ?_ -- t138
                      refine WL.sto (Sto.agg sz27 rfl rfl (by repeat (first | exact Take1.head | apply Take1.tail)) (Rs.one rfl) (Rs.len18 hgl) (by rw [Rs.len18 hgl]; rfl) (Rs.put hgl)) (fun _ h => nomatch h) ?_ -- st 10
                      refine WL.nil ?_
                      refine WC.seq ?_
                      refine WC.region ?_
                      refine WL.y (Yl.field fo44_1 rfl) rfl ?_ -- t139
                      refine WL.y (Yl.load on4 rfl (by repeat (first | exact Take1.head | apply Take1.tail)) (by rfl)) rfl ?_ -- t140
                      refine WL.nil ?_
                      refine WC.cond rfl (fun g140 => ?_) (fun g140 => ?_)
                      · refine WC.region ?_
                        refine WL.y (Yl.move rfl) rfl ?_ -- t141
                        refine WL.y (Yl.field fo44_0 rfl) rfl ?_ -- t142
                        refine WL.y (Yl.loadN ag31 rfl (by repeat (first | exact Take1.head | apply Take1.tail)) (by rfl) (show _ = x.d.cells from rfl)) rfl ?_ -- t143
                        refine WL.y (Yl.build rfl (cs := []) (fun _ => by kernel_rfl)) rfl ?_ -- t144
                        refine WL.sto (Sto.mapPut (v := ()) (q := x.d) (m := m) (kv := Dv.val) keyDv un42 hM.ok rfl rfl hxo rfl (by repeat (first | exact Take1.head | apply Take1.tail))) (fun _ h => nomatch h) ?_ -- st 11
                        refine WL.nil ?_
                        have hi : x.inn = true := g140
                        rw [show stepM x.inn m x.d = mput m x.d () by unfold stepM; rw [hi]; rfl]
                        exact ⟨rfl, (), trivial, (by repeat (first | exact Sub.nil | refine Sub.cons rfl ?_)), (by repeat (first | exact Sub.nil | refine Sub.cons rfl ?_)), _, (by repeat (first | exact TakeL.nil | (apply TakeL.cons; · repeat (first | exact Take1.head | apply Take1.tail))))⟩
                      · refine WC.region ?_
                        refine WL.y (Yl.move rfl) rfl ?_ -- t145
                        refine WL.y (Yl.field fo44_0 rfl) rfl ?_ -- t146
                        refine WL.y (Yl.loadN ag31 rfl (by repeat (first | exact Take1.head | apply Take1.tail)) (by rfl) (show _ = x.d.cells from rfl)) rfl ?_ -- t147
                        refine WL.eff (Eff.mapDel (q := x.d) (m := m) (kv := Dv.val) (vv := vvU) keyDv un42 hM.ok rfl rfl hxo (by repeat (first | exact Take1.head | apply Take1.tail))) ?_
                        refine WL.nil ?_
                        have hi : x.inn = false := g140
                        rw [show stepM x.inn m x.d = mdel m x.d by unfold stepM; rw [hi]; rfl]
                        exact ⟨rfl, (), trivial, (by repeat (first | exact Sub.nil | refine Sub.cons rfl ?_)), (by repeat (first | exact Sub.nil | refine Sub.cons rfl ?_)), _, (by repeat (first | exact TakeL.nil | (apply TakeL.cons; · repeat (first | exact Take1.head | apply Take1.tail))))⟩
                    · rintro ⟨⟩ -
                      try dsimp only [List.cons_append, List.nil_append]
                      have hml := hM2.len hG2.up
                      refine WC.seq ?_
                      refine WC.seq ?_
                      refine WC.region ?_
                      refine WL.y (Yl.field fo27_2 rfl) rfl ?_ -- t148
                      refine WL.y (Yl.load on25 rfl (by repeat (first | exact Take1.head | apply Take1.tail)) (Rs.at17 hgl)) rfl ?_ -- t149
                      refine WL.y (Yl.len un25 rfl) rfl ?_ -- t150
                      refine WL.y (Yl.move rfl) rfl ?_ -- t151
                      refine WL.y (Yl.lenM un42 rfl (MReads.of (m := stepM x.inn m x.d) MapOf.own (by repeat (first | exact Take1.head | apply Take1.tail)))) rfl ?_ -- t152
                      refine WL.y (Yl.neq rfl rfl) rfl ?_ -- t153
                      refine WL.know (t := 153) (b' := false) rfl (by rw [hml]; simp) ?_
                      refine WL.y (Yl.move rfl) rfl ?_ -- t154
                      refine WL.on rfl rfl ?_
                      refine WL.y (Yl.loadN ag27 rfl (by repeat (first | exact Take1.head | apply Take1.tail)) (by rw [Rs.len18 hgl]; rfl) (rall hgl)) rfl ?_ -- t155
                      refine WL.on rfl rfl ?_
                      refine WL.callC (xs := [.tmp 155]) (cap := []) rfl rfl en16 (by repeat (first | exact TakeL.nil | (apply TakeL.cons; · repeat (first | exact Take1.head | apply Take1.tail)))) (fun w hw => may_any (Rs.mk g (e + 1) (.slice a14 ns.length c14)) ns hgl (by omega) w (hw.src (A := []) (r := rdR (.slice a14 ns.length c14) 2 ns.length (vcs Dv.val ns)) RdOf.rd' (by repeat (first | exact Take1.head | apply Take1.tail))) hw.left.here) rfl ?_ -- t156 hailer/roster.May
                      rintro ⟨⟩ -
                      refine WL.know (t := 156) (b' := true) rfl hmay2 ?_
                      refine WL.on rfl rfl ?_
                      refine WL.y (Yl.not rfl) rfl ?_ -- t157
                      refine WL.y (Yl.pickF rfl rfl) rfl ?_ -- t158
                      refine WL.nil ?_
                      refine WC.condF rfl (by first | rfl | (simp; done) | (simp; omega)) ?_
                      refine WC.skip ?_
                      refine WC.seq ?_
                      refine WC.region ?_
                      refine WL.y (Yl.field fo27_2 rfl) rfl ?_ -- t159
                      refine WL.y (Yl.load on25 rfl (by repeat (first | exact Take1.head | apply Take1.tail)) (Rs.at17 hgl)) rfl ?_ -- t160
                      refine WL.y (Yl.len un25 rfl) rfl ?_ -- t161
                      refine WL.y (Yl.move rfl) rfl ?_ -- t162
                      refine WL.nil ?_
                      refine WC.block ?_
                      refine WC.loop (α := Nat) (fun j => [(160, .slice a14 ns.length c14), (161, .int .i64 (ns.length : Int)), (162, .int .i64 (j : Int)), (7, .pointer (some ⟨b7, 0, none⟩)), (9, .map (some b37)), (41, .slice bo l.length cap2), (42, .int .i64 (l.length : Int)), (43, .int .i64 (k : Int))]) (fun _ => [blkR b7 27 (Rs.mk g (e + 1) (.slice a14 ns.length c14)).cells, rdR (.slice a14 ns.length c14) 2 ns.length (vcs Dv.val ns), mapR Dv.val vvU b37 (stepM x.inn m x.d), rdR (.slice bo l.length cap2) 3 l.length (vcs Dq.val l)]) (fun j => j ≤ ns.length) (fun j => ns.length - j) 0 (Nat.zero_le _) ⟨(by repeat (first | exact Sub.nil | refine Sub.cons rfl ?_)), _, (by repeat (first | exact TakeL.nil | (apply TakeL.cons; · repeat (first | exact Take1.head | apply Take1.tail))))⟩ ?_
                      rintro j hj
                      refine WC.seq ?_
                      refine WC.region ?_
                      refine WL.y (Yl.lss rfl rfl) rfl ?_ -- t163
                      refine WL.nil ?_
                      refine WC.seq ?_
                      refine WC.condD rfl (fun g163 => ?_) (fun g163 => ?_)
                      · refine WC.skip ?_
                        refine WC.seq ?_
                        refine WC.block ?_
                        refine WC.seq ?_
                        obtain ⟨z, hzz⟩ : ∃ z, ns[j]? = some z := ⟨_, List.getElem?_eq_getElem (by omega)⟩
                        have hzo := hG2.ok z (List.mem_of_getElem? hzz)
                        refine WC.region ?_
                        refine WL.y (Yl.index un25 sz31 rfl rfl (Reads.of (r := rdR (.slice a14 ns.length c14) 2 ns.length (vcs Dv.val ns)) RdOf.rd' (by repeat (first | exact Take1.head | apply Take1.tail))) rfl (by omega)) rfl ?_ -- t164
                        refine WL.y (Yl.loadV (j := j) (u := z) dvV dvAll rfl (Reads.of (r := rdR (.slice a14 ns.length c14) 2 ns.length (vcs Dv.val ns)) RdOf.rd' (by repeat (first | exact Take1.head | apply Take1.tail))) rfl hzz) rfl ?_
                        refine WL.to (To.alloc (cs := d0.cells) zr31 rfl) rfl ?_ -- t19
                        intro b19
                        refine WL.sto (Sto.agg sz31 rfl rfl (by repeat (first | exact Take1.head | apply Take1.tail)) (Dv.ones z) rfl (by rfl) (show _ = z.cells from rfl)) (fun _ h => nomatch h) ?_ -- st 12
                        refine WL.nil ?_
                        refine WC.seq ?_
                        refine WC.region ?_
                        refine WL.y (Yl.move rfl) rfl ?_ -- t167
                        refine WL.y (Yl.loadN ag31 rfl (by repeat (first | exact Take1.head | apply Take1.tail)) (by rfl) (by rfl)) rfl ?_ -- t168
                        refine WL.y (Yl.lookupOk (kv := Dv.val) keyDv un42 (fun _ => by kernel_rfl) (z := .agg #[]) (m := stepM x.inn m x.d) hM2.ok rfl rfl hzo (MReads.of (m := stepM x.inn m x.d) MapOf.own (by repeat (first | exact Take1.head | apply Take1.tail)))) rfl ?_ -- t169
                        refine WL.y (Yl.move rfl) rfl ?_ -- t166
                        refine WL.y (Yl.extract rfl rfl) rfl ?_ -- t170
                        refine WL.say (t := 170) (v' := .agg ([] : List Value).toArray) rfl (by cases mget (stepM x.inn m x.d) z <;> rfl) ?_
                        refine WL.y (Yl.extract rfl rfl) rfl ?_ -- t171
                        refine WL.know (t := 171) (b' := true) rfl (by rw [hM2.get]; exact decide_eq_true (List.mem_of_getElem? hzz)) ?_
                        refine WL.to (To.alloc (cs := []) zr41 rfl) rfl ?_ -- t20
                        intro b20
                        refine WL.sto (Sto.agg sz41 rfl rfl (by repeat (first | exact Take1.head | apply Take1.tail)) (fun _ h => nomatch h) rfl (by rfl) (show _ = ([] : List Value) from rfl)) (fun _ h => nomatch h) ?_ -- st 13
                        refine WL.y (Yl.assign rfl) rfl ?_ -- t21
                        refine WL.nil ?_
                        refine WC.seq ?_
                        refine WC.region ?_
                        refine WL.y (Yl.move rfl) rfl ?_ -- t172
                        refine WL.y (Yl.not rfl) rfl ?_ -- t173
                        refine WL.nil ?_
                        refine WC.condF rfl (by first | rfl | (simp; done) | (simp; omega)) ?_
                        refine WC.skip ?_
                        refine WC.region ?_
                        refine WL.y (Yl.add rfl rfl (IntWalk.i64_in _ (by omega))) rfl ?_ -- t174
                        refine WL.y (Yl.move rfl) rfl ?_ -- t162
                        refine WL.nil ?_
                        exact ⟨rfl, j + 1, by omega, by omega, (by repeat (first | exact Sub.nil | refine Sub.cons rfl ?_)), _, (by repeat (first | exact TakeL.nil | (apply TakeL.cons; · repeat (first | exact Take1.head | apply Take1.tail))))⟩
                      · refine WC.exit ?_
                        refine WC.region ?_
                        refine WL.y (Yl.add rfl rfl (IntWalk.i64_in _ (by omega))) rfl ?_ -- t175
                        refine WL.y (Yl.move rfl) rfl ?_ -- t43
                        refine WL.nil ?_
                        exact ⟨rfl, (k + 1, e + 1, ns, .slice a14 ns.length c14, stepM x.inn m x.d), ⟨by dsimp only; omega, by dsimp only; omega, by dsimp only; omega, hG2, hS2, hM2⟩, by dsimp only; omega, (by repeat (first | exact Sub.nil | refine Sub.cons rfl ?_)), _, (by repeat (first | exact TakeL.nil | (apply TakeL.cons; · repeat (first | exact Take1.head | apply Take1.tail))))⟩
      · refine WC.exit ?_
        refine WC.seq ?_
        refine WC.region ?_
        refine WL.y (Yl.assign rfl) rfl ?_ -- t6
        refine WL.nil ?_
        refine WC.ret ?_
        repeat (first | (with_reducible refine peelT ?_) | (with_reducible refine peelB ?_) | (with_reducible refine peelTX ?_) | (with_reducible refine peelBX ?_) | (with_reducible refine peelBN ?_) | (with_reducible refine peelBO rfl ?_))
        exact ret1 (.inr rfl) Try.results4 rfl fun w' h => ⟨(), trivial, rfl, h.sub (by repeat (first | exact TakeL.nil | (apply TakeL.cons; · repeat (first | exact Take1.head | apply Take1.tail))))⟩
end Go.Proofs.Ytfdnnlcfolgegaa
