/- Records in another order: the walks. -/
import Derived.Test.YtmcdbjbkkejbbaaMerI
import Derived.Test.YtmcdbjbkkejbbaaLibAz
namespace Go.Proofs.Ytmcdbjbkkejbbaa
open Go Go.RowKit
set_option maxRecDepth 100000 in
theorem growR_nil (n : Nat) (hn : n ≤ 1000000) (w : World) (hw : OK w (fpL []) [] w) :
    Fn Try.prog 53 [.slice none 0 0, .int .i64 (n : Int)] [] w (fun _ : Option Addr × Nat => True) (fun y => .slice y.1 0 y.2) (fun y => [ownR (.slice y.1 0 y.2) 31 22 0 []]) := by
  refine enterF Try.func53 rfl Try.ntmps53 rfl hw ?_
  refine WC.seq ?_
  refine WC.region ?_
  refine WL.y (Yl.assign rfl) rfl ?_ -- t4
  refine WL.nil ?_
  refine WC.seq ?_
  refine WC.seq ?_
  refine WC.region ?_
  refine WL.y (Yl.move rfl) rfl ?_ -- t5
  refine WL.y (Yl.lss rfl rfl) rfl ?_ -- t6
  refine WL.nil ?_
  refine WC.condF rfl (by first | rfl | (simp; done) | (simp; omega)) ?_
  refine WC.skip ?_
  refine WC.seq ?_
  refine WC.seq ?_
  refine WC.region ?_
  refine WL.y (Yl.move rfl) rfl ?_ -- t8
  refine WL.y (Yl.move rfl) rfl ?_ -- t9
  refine WL.y (Yl.cap un22 rfl) rfl ?_ -- t10
  refine WL.y (Yl.move rfl) rfl ?_ -- t11
  refine WL.y (Yl.len un22 rfl) rfl ?_ -- t12
  refine WL.y (Yl.sub rfl rfl (IntWalk.i64_in _ (by omega))) rfl ?_ -- t13
  refine WL.y (Yl.sub rfl rfl (IntWalk.i64_in _ (by omega))) rfl ?_ -- t14
  refine WL.say (t := 14) (v' := .int .i64 (n : Int)) rfl (by (refine congrArg _ ?_; omega)) ?_
  refine WL.y (Yl.assign rfl) rfl ?_ -- t1
  refine WL.nil ?_
  refine WC.seq ?_
  refine WC.region ?_
  refine WL.y (Yl.move rfl) rfl ?_ -- t15
  refine WL.y (Yl.gtr rfl rfl) rfl ?_ -- t16
  refine WL.nil ?_
  refine WC.condD rfl (fun g16 => ?_) (fun g16 => ?_)
  · refine WC.region ?_
    refine WL.y (Yl.move rfl) rfl ?_ -- t17
    refine WL.y (Yl.move rfl) rfl ?_ -- t18
    refine WL.y (Yl.cap un22 rfl) rfl ?_ -- t19
    refine WL.y (Yl.slice (l := 0) (h := 0) un22 sz31 rfl rfl ⟨_, rfl⟩ (by omega) (by omega)) rfl ?_
    refine WL.say (t := 20) (v' := .slice none 0 0) rfl (by rfl) ?_
    refine WL.y (Yl.move rfl) rfl ?_ -- t21
    refine WL.to (To.appendZ0N sl22 un3 rfl rfl (by omega) rfl (by unfold maxLen; omega) (by omega)) rfl ?_
    rintro ⟨⟨b22, c22⟩, hc22⟩
    dsimp only at hc22 ⊢
    refine WL.y (Yl.move rfl) rfl ?_ -- t23
    refine WL.y (Yl.len un22 rfl) rfl ?_ -- t24
    refine WL.y (Yl.slice (l := 0) (h := 0) un22 sz31 rfl rfl ⟨_, rfl⟩ (by omega) (by omega)) rfl ?_
    refine WL.say (t := 25) (v' := .slice (some ⟨b22, 0, none⟩) 0 c22) rfl (by (unfold subS; simp [Addr.add])) ?_
    refine WL.y (Yl.assign rfl) rfl ?_ -- t0
    refine WL.nil ?_
    refine WC.seq ?_
    refine WC.region ?_
    refine WL.y (Yl.move rfl) rfl ?_ -- t26
    refine WL.y (Yl.assign rfl) rfl ?_ -- t4
    refine WL.nil ?_
    refine WC.ret ?_
    repeat (first | (with_reducible refine peelT ?_) | (with_reducible refine peelB ?_) | (with_reducible refine peelTX ?_) | (with_reducible refine peelBX ?_) | (with_reducible refine peelBN ?_) | (with_reducible refine peelBO rfl ?_))
    exact ret1 (.inr rfl) Try.results53 rfl fun w' h => ⟨(some ⟨b22, 0, none⟩, c22), trivial, rfl, by
      have h2 := h.subG .head (l := 0) (hh := 0) (m := c22) (by omega) (by omega) (by omega) (by omega) rfl
      have e : subS (.slice (some ⟨b22, 0, none⟩) n c22) 0 0 c22 22 = .slice (some ⟨b22, 0, none⟩) 0 c22 := by unfold subS; simp [Addr.add]
      rw [e] at h2
      simp only [Nat.sub_self, Nat.zero_mul, List.take_zero] at h2
      exact h2.sub (by repeat (first | exact TakeL.nil | (apply TakeL.cons; · repeat (first | exact Take1.head | apply Take1.tail))))⟩
  · refine WC.skip ?_
    refine WC.seq ?_
    refine WC.region ?_
    refine WL.y (Yl.move rfl) rfl ?_ -- t26
    refine WL.y (Yl.assign rfl) rfl ?_ -- t4
    refine WL.nil ?_
    refine WC.ret ?_
    repeat (first | (with_reducible refine peelT ?_) | (with_reducible refine peelB ?_) | (with_reducible refine peelTX ?_) | (with_reducible refine peelBX ?_) | (with_reducible refine peelBN ?_) | (with_reducible refine peelBO rfl ?_))
    exact ret1 (.inr rfl) Try.results53 rfl fun w' h => ⟨(none, 0), trivial, rfl, (h.addNil 31 22).sub (by repeat (first | exact TakeL.nil | (apply TakeL.cons; · repeat (first | exact Take1.head | apply Take1.tail))))⟩

theorem concatR_any (ls : List (List Rc)) (vs : List Value) (lv : Value) (hG : ∀ l ∈ ls, ROk l) (hvl : vs.length = ls.length) (htot : ls.flatten.length ≤ 1000000) (hmany : ls.length ≤ 100000) (w : World)
    (hlv : RdS w (fpL []) lv 1 ls.length vs) (hls : ∀ (i : Nat) v bs, vs[i]? = some v → ls[i]? = some bs → RdS w (fpL []) v 22 bs.length (vcs rcV bs)) (hw : OK w (fpL []) [] w) :
    Fn Try.prog 26 [lv] [] w (fun _ : Option Addr × Nat => True) (fun y => .slice y.1 ls.flatten.length y.2) (fun y => [ownR (.slice y.1 ls.flatten.length y.2) 31 22 ls.flatten.length (vcs rcV ls.flatten)]) := by
  obtain ⟨la, lc, rfl, hlcl, hlml⟩ := hlv.rd.form
  have fl : ∀ {i : Nat} {bs : List Rc}, ls[i]? = some bs → (ls.take (i + 1)).flatten = (ls.take i).flatten ++ bs := by
    intro i bs h
    rw [← take_snoc _ _ _ h, List.flatten_append]; simp
  have fle : ∀ i, (ls.take i).flatten.length ≤ ls.flatten.length := fun i => lsFlat_take i
  refine enterF Try.func26 rfl Try.ntmps26 rfl hw ?_
  refine WC.seq ?_
  refine WC.region ?_
  refine WL.y (Yl.assign rfl) rfl ?_ -- t2
  refine WL.nil ?_
  refine WC.seq ?_
  refine WC.region ?_
  refine WL.y (Yl.assign rfl) rfl ?_ -- t3
  refine WL.nil ?_
  refine WC.seq ?_
  refine WC.seq ?_
  refine WC.region ?_
  refine WL.y (Yl.move rfl) rfl ?_ -- t9
  refine WL.y (Yl.len un56 rfl) rfl ?_ -- t10
  refine WL.y (Yl.move rfl) rfl ?_ -- t11
  refine WL.nil ?_
  refine WC.block ?_
  refine WC.loop (α := Nat) (fun k => [(0, .slice la ls.length lc), (3, .int .i64 ((ls.take k).flatten.length : Int)), (9, .slice la ls.length lc), (10, .int .i64 (ls.length : Int)), (11, .int .i64 (k : Int))]) (fun _ => []) (fun k => k ≤ ls.length) (fun k => ls.length - k) 0 (Nat.zero_le _) ⟨(by repeat (first | exact Sub.nil | refine Sub.cons rfl ?_)), _, (by repeat (first | exact TakeL.nil | (apply TakeL.cons; · repeat (first | exact Take1.head | apply Take1.tail))))⟩ ?_
  intro k hk
  refine WC.seq ?_
  refine WC.region ?_
  refine WL.y (Yl.lss rfl rfl) rfl ?_ -- t12
  refine WL.nil ?_
  refine WC.seq ?_
  refine WC.condD rfl (fun g12 => ?_) (fun g12 => ?_)
  · refine WC.skip ?_
    refine WC.seq ?_
    refine WC.block ?_
    refine WC.seq ?_
    refine WC.region ?_
    have hkl : k < ls.length := by omega
    obtain ⟨z, hz⟩ : ∃ z, ls[k]? = some z := ⟨_, List.getElem?_eq_getElem hkl⟩
    obtain ⟨v, hv⟩ : ∃ v, vs[k]? = some v := ⟨_, List.getElem?_eq_getElem (by omega)⟩
    have hzr := hls k v z hv hz
    obtain ⟨az, cz, rfl, _, _⟩ := hzr.rd.form
    have hf := fl hz
    have hle := fle (k + 1)
    rw [hf, List.length_append] at hle
    refine WL.y (Yl.index un56 sz22 rfl rfl (Reads.s hlv) rfl (by omega)) rfl ?_ -- t13
    refine WL.y (Yl.loadE on22 rfl (Reads.s hlv) hv) rfl ?_
    refine WL.y (Yl.assign rfl) rfl ?_ -- t5
    refine WL.nil ?_
    refine WC.seq ?_
    refine WC.region ?_
    refine WL.y (Yl.move rfl) rfl ?_ -- t15
    refine WL.y (Yl.move rfl) rfl ?_ -- t16
    refine WL.y (Yl.len un22 rfl) rfl ?_ -- t17
    refine WL.y (Yl.add rfl rfl (IntWalk.i64_in _ (by omega))) rfl ?_ -- t18
    refine WL.say (t := 18) (v' := .int .i64 ((ls.take (k + 1)).flatten.length : Int)) rfl (by (refine congrArg _ ?_; rw [hf, List.length_append]; omega)) ?_
    refine WL.y (Yl.assign rfl) rfl ?_ -- t3
    refine WL.nil ?_
    refine WC.seq ?_
    refine WC.region ?_
    refine WL.y (Yl.move rfl) rfl ?_ -- t19
    refine WL.y (Yl.lss rfl rfl) rfl ?_ -- t20
    refine WL.nil ?_
    refine WC.condF rfl (by first | rfl | (simp; done) | (simp; omega)) ?_
    refine WC.skip ?_
    refine WC.region ?_
    refine WL.y (Yl.add rfl rfl (IntWalk.i64_in _ (by omega))) rfl ?_ -- t22
    refine WL.y (Yl.move rfl) rfl ?_ -- t11
    refine WL.nil ?_
    exact ⟨rfl, k + 1, by omega, by omega, (by repeat (first | exact Sub.nil | refine Sub.cons rfl ?_)), _, (by repeat (first | exact TakeL.nil | (apply TakeL.cons; · repeat (first | exact Take1.head | apply Take1.tail))))⟩
  · refine WC.exit ?_
    refine WC.seq ?_
    have hkl : k = ls.length := by omega
    subst hkl
    rw [List.take_length]
    refine WC.region ?_
    refine WL.y (Yl.move rfl) rfl ?_ -- t23
    refine WL.callC (xs := [_, .tmp 23]) (cap := []) rfl rfl en53 (by repeat (first | exact TakeL.nil | (apply TakeL.cons; · repeat (first | exact Take1.head | apply Take1.tail)))) (fun w hw => growR_nil ls.flatten.length htot w hw.left.here) rfl ?_ -- t24 slices.Grow[[]hailer/api.Record,hailer/api.Record]
    rintro ⟨a24, c24⟩ -
    dsimp only
    refine WL.y (Yl.assign rfl) rfl ?_ -- t6
    refine WL.nil ?_
    refine WC.seq ?_
    refine WC.seq ?_
    refine WC.region ?_
    refine WL.y (Yl.move rfl) rfl ?_ -- t25
    refine WL.y (Yl.len un56 rfl) rfl ?_ -- t26
    refine WL.y (Yl.move rfl) rfl ?_ -- t27
    refine WL.nil ?_
    refine WC.block ?_
    refine WC.loop (α := Nat × (Option Addr × Nat)) (fun p => [(0, .slice la ls.length lc), (6, .slice p.2.1 (ls.take p.1).flatten.length p.2.2), (25, .slice la ls.length lc), (26, .int .i64 (ls.length : Int)), (27, .int .i64 (p.1 : Int))]) (fun p => [ownR (.slice p.2.1 (ls.take p.1).flatten.length p.2.2) 31 22 (ls.take p.1).flatten.length (vcs rcV (ls.take p.1).flatten)]) (fun p => p.1 ≤ ls.length) (fun p => ls.length - p.1) (0, (a24, c24)) (Nat.zero_le _) ⟨(by repeat (first | exact Sub.nil | refine Sub.cons rfl ?_)), _, (by repeat (first | exact TakeL.nil | (apply TakeL.cons; · repeat (first | exact Take1.head | apply Take1.tail))))⟩ ?_
    rintro ⟨k, ao, ca⟩ hk
    dsimp only at hk ⊢
    refine WC.seq ?_
    refine WC.region ?_
    refine WL.y (Yl.lss rfl rfl) rfl ?_ -- t28
    refine WL.nil ?_
    refine WC.seq ?_
    refine WC.condD rfl (fun g28 => ?_) (fun g28 => ?_)
    · refine WC.skip ?_
      refine WC.seq ?_
      refine WC.block ?_
      refine WC.seq ?_
      refine WC.region ?_
      have hkl : k < ls.length := by omega
      obtain ⟨z, hz⟩ : ∃ z, ls[k]? = some z := ⟨_, List.getElem?_eq_getElem hkl⟩
      obtain ⟨v, hv⟩ : ∃ v, vs[k]? = some v := ⟨_, List.getElem?_eq_getElem (by omega)⟩
      have hzr := hls k v z hv hz
      obtain ⟨az, cz, rfl, _, _⟩ := hzr.rd.form
      have hf := fl hz
      have hle := fle (k + 1)
      rw [hf, List.length_append] at hle
      refine WL.y (Yl.index un56 sz22 rfl rfl (Reads.s hlv) rfl (by omega)) rfl ?_ -- t29
      refine WL.y (Yl.loadE on22 rfl (Reads.s hlv) hv) rfl ?_
      refine WL.y (Yl.assign rfl) rfl ?_ -- t8
      refine WL.nil ?_
      refine WC.region ?_
      refine WL.y (Yl.move rfl) rfl ?_ -- t31
      refine WL.y (Yl.move rfl) rfl ?_ -- t32
      refine WL.to (To.append sl22 rfl rfl (by repeat (first | exact Take1.head | apply Take1.tail)) (Reads.s hzr) (vtR.ones _) (show (ls.take k).flatten.length + z.length = (ls.take (k + 1)).flatten.length by rw [hf, List.length_append]) (show _ = vcs rcV (ls.take (k + 1)).flatten by rw [hf, vcs_app]) (by rw [hf, List.length_append]; unfold maxLen; omega) (by rw [hf, List.length_append]; omega)) rfl ?_ -- t33
      rintro ⟨⟨ao33, c33⟩, hc33⟩
      dsimp only at hc33 ⊢
      refine WL.y (Yl.assign rfl) rfl ?_ -- t6
      refine WL.nil ?_
      refine WC.region ?_
      refine WL.y (Yl.add rfl rfl (IntWalk.i64_in _ (by omega))) rfl ?_ -- t34
      refine WL.y (Yl.move rfl) rfl ?_ -- t27
      refine WL.nil ?_
      exact ⟨rfl, (k + 1, ao33, c33), by dsimp only; omega, by dsimp only; omega, (by repeat (first | exact Sub.nil | refine Sub.cons rfl ?_)), _, (by repeat (first | exact TakeL.nil | (apply TakeL.cons; · repeat (first | exact Take1.head | apply Take1.tail))))⟩
    · refine WC.exit ?_
      refine WC.seq ?_
      refine WC.region ?_
      refine WL.y (Yl.move rfl) rfl ?_ -- t35
      refine WL.y (Yl.assign rfl) rfl ?_ -- t2
      refine WL.nil ?_
      refine WC.ret ?_
      repeat (first | (with_reducible refine peelT ?_) | (with_reducible refine peelB ?_) | (with_reducible refine peelTX ?_) | (with_reducible refine peelBX ?_) | (with_reducible refine peelBN ?_) | (with_reducible refine peelBO rfl ?_))
      have hkl : k = ls.length := by omega
      subst hkl
      rw [List.take_length]
      exact ret1 (.inr rfl) Try.results26 rfl fun w' h => ⟨(ao, ca), trivial, rfl, h.sub (by repeat (first | exact TakeL.nil | (apply TakeL.cons; · repeat (first | exact Take1.head | apply Take1.tail))))⟩
/-! ### Turned: the same records, in another order -/
def turnStep (p : List Rc × List Rc) (k : Int) : List Rc × List Rc :=
  if 0 < p.2.length then
    match p.2[(k % (p.2.length : Int)).toNat]? with
    | none => p
    | some x => (p.1 ++ [x], p.2.take (k % (p.2.length : Int)).toNat ++ p.2.drop ((k % (p.2.length : Int)).toNat + 1))
  else p
def turnP (xs : List Rc) (ks : List Int) : List Rc × List Rc := ks.foldl turnStep ([], xs)
def turnF (xs : List Rc) (ks : List Int) : List Rc := (turnP xs ks).1 ++ (turnP xs ks).2
theorem turnStep_perm (p : List Rc × List Rc) (k : Int) : (p.1 ++ p.2).Perm ((turnStep p k).1 ++ (turnStep p k).2) := by
  unfold turnStep
  split
  · split
    · exact List.Perm.refl _
    · rename_i x hx
      have hd : p.2 = p.2.take (k % (p.2.length : Int)).toNat ++ x :: p.2.drop ((k % (p.2.length : Int)).toNat + 1) := by
        have hd : p.2.drop (k % (p.2.length : Int)).toNat = x :: p.2.drop ((k % (p.2.length : Int)).toNat + 1) := by rw [List.drop_eq_getElem?_toList_append, hx]; rfl
        rw [← hd, List.take_append_drop]
      rw [List.append_assoc]
      refine List.Perm.append_left _ ?_
      conv => lhs; rw [hd]
      exact List.perm_middle
  · exact List.Perm.refl _
theorem turnP_perm : ∀ (ks : List Int) (p : List Rc × List Rc), (p.1 ++ p.2).Perm ((ks.foldl turnStep p).1 ++ (ks.foldl turnStep p).2)
  | [], p => List.Perm.refl _
  | k :: ks, p => (turnStep_perm p k).trans (turnP_perm ks (turnStep p k))
theorem turnF_perm (xs : List Rc) (ks : List Int) : xs.Perm (turnF xs ks) := turnP_perm ks ([], xs)
theorem turnP_snoc (xs : List Rc) (ks : List Int) (k : Int) : turnP xs (ks ++ [k]) = turnStep (turnP xs ks) k := by unfold turnP; rw [List.foldl_append]; rfl
theorem turnP_len (xs : List Rc) (ks : List Int) : (turnP xs ks).1.length + (turnP xs ks).2.length = xs.length := by
  have := (turnP_perm ks ([], xs)).length_eq
  simpa [turnP] using this.symm
theorem turnP_ok {xs : List Rc} (h : ROk xs) (ks : List Int) : ROk (turnP xs ks).1 ∧ ROk (turnP xs ks).2 := by
  have hp := turnP_perm ks ([], xs)
  exact ⟨fun r hr => h r (by simpa using hp.mem_iff.2 (List.mem_append_left _ hr)), fun r hr => h r (by simpa using hp.mem_iff.2 (List.mem_append_right _ hr))⟩
theorem turned_any (v u : Value) (xs : List Rc) (ks : List Int) (hG : ROk xs) (hk : ∀ k ∈ ks, 0 ≤ k ∧ k < 65536) (hl : xs.length ≤ 10000) (hkl : ks.length ≤ 1000) (w : World) (hx : RdS w (fpL []) v 22 xs.length (vcs rcV xs)) (hu : RdS w (fpL []) u 1 ks.length (ints .u16 ks)) (hw : OK w (fpL []) [] w) :
    Fn Try.prog 27 [v, u] [] w (fun _ : Option Addr × Nat => True) (fun y => .slice y.1 (turnF xs ks).length y.2) (fun y => [ownR (.slice y.1 (turnF xs ks).length y.2) 31 22 (turnF xs ks).length (vcs rcV (turnF xs ks))]) := by
  have htl := (turnF_perm xs ks).length_eq
  obtain ⟨au, cu, rfl, hcu, hmu⟩ := hu.rd.form
  refine enterF Try.func27 rfl Try.ntmps27 rfl hw ?_
  refine WC.seq ?_
  refine WC.region ?_
  refine WL.y (Yl.assign rfl) rfl ?_ -- t4
  refine WL.nil ?_
  refine WC.seq ?_
  refine WC.region ?_
  refine WL.y (Yl.assign rfl) rfl ?_ -- t5
  refine WL.nil ?_
  refine WC.seq ?_
  refine WC.region ?_
  refine WL.y (Yl.move rfl) rfl ?_ -- t11
  refine WL.callC (xs := [.tmp 11]) (cap := []) rfl rfl en35 (by repeat (first | exact TakeL.nil | (apply TakeL.cons; · repeat (first | exact Take1.head | apply Take1.tail)))) (fun w hw => cloneR_any v xs hG (by omega) w (hw.srcS (A := []) hx) hw.left.here) rfl ?_ -- t12 slices.Clone[[]hailer/api.Record,hailer/api.Record]
  rintro ⟨a12, c12⟩ -
  dsimp only
  refine WL.y (Yl.assign rfl) rfl ?_ -- t6
  refine WL.nil ?_
  refine WC.seq ?_
  refine WC.seq ?_
  refine WC.region ?_
  refine WL.y (Yl.move rfl) rfl ?_ -- t13
  refine WL.y (Yl.len un62 rfl) rfl ?_ -- t14
  refine WL.y (Yl.move rfl) rfl ?_ -- t15
  refine WL.nil ?_
  refine WC.block ?_
  refine WC.view (fun w h => h.addNil 31 22) ?_
  refine WC.loop (α := Nat × (Option Addr × Nat) × (Option Addr × Nat)) (fun s => [(5, .slice s.2.1.1 (turnP xs (ks.take s.1)).1.length s.2.1.2), (6, .slice s.2.2.1 (turnP xs (ks.take s.1)).2.length s.2.2.2), (13, .slice au ks.length cu), (14, .int .i64 (ks.length : Int)), (15, .int .i64 (s.1 : Int))]) (fun s => [ownR (.slice s.2.1.1 (turnP xs (ks.take s.1)).1.length s.2.1.2) 31 22 (turnP xs (ks.take s.1)).1.length (vcs rcV (turnP xs (ks.take s.1)).1), ownR (.slice s.2.2.1 (turnP xs (ks.take s.1)).2.length s.2.2.2) 31 22 (turnP xs (ks.take s.1)).2.length (vcs rcV (turnP xs (ks.take s.1)).2)]) (fun s => s.1 ≤ ks.length) (fun s => ks.length - s.1) (0, (none, 0), (a12, c12)) (Nat.zero_le _) ⟨(by repeat (first | exact Sub.nil | refine Sub.cons rfl ?_)), _, (by repeat (first | exact TakeL.nil | (apply TakeL.cons; · repeat (first | exact Take1.head | apply Take1.tail))))⟩ ?_
  rintro ⟨i, ⟨a5, c5⟩, ⟨a6, c6⟩⟩ hi
  dsimp only at hi ⊢
  have hpl := turnP_len xs (ks.take i)
  have hpo := turnP_ok hG (ks.take i)
  obtain ⟨p, hp⟩ : ∃ p, turnP xs (ks.take i) = p := ⟨_, rfl⟩
  rw [hp] at hpl hpo ⊢
  obtain ⟨p1, p2⟩ := p
  dsimp only at hpl hpo ⊢
  refine WC.seq ?_
  refine WC.region ?_
  refine WL.y (Yl.lss rfl rfl) rfl ?_ -- t16
  refine WL.nil ?_
  refine WC.seq ?_
  refine WC.condD rfl (fun g16 => ?_) (fun g16 => ?_)
  · refine WC.skip ?_
    refine WC.seq ?_
    refine WC.block ?_
    refine WC.seq ?_
    refine WC.region ?_
    have hil : i < ks.length := by omega
    obtain ⟨k, hkx⟩ : ∃ k, ks[i]? = some k := ⟨_, List.getElem?_eq_getElem hil⟩
    have hkb := hk k (List.mem_of_getElem? hkx)
    have hnx : turnP xs (ks.take (i + 1)) = turnStep (p1, p2) k := by rw [← take_snoc _ _ _ hkx, turnP_snoc, hp]
    refine WL.y (Yl.index un62 sz92 rfl rfl (Reads.s hu) rfl (by omega)) rfl ?_ -- t17
    refine WL.y (Yl.loadE on92 rfl (Reads.s hu) (u := .int .u16 k) (by simp [ints, hkx])) rfl ?_
    refine WL.y (Yl.assign rfl) rfl ?_ -- t8
    refine WL.nil ?_
    refine WC.seq ?_
    refine WC.region ?_
    refine WL.y (Yl.move rfl) rfl ?_ -- t19
    refine WL.y (Yl.len un22 rfl) rfl ?_ -- t20
    refine WL.y (Yl.assign rfl) rfl ?_ -- t9
    refine WL.nil ?_
    refine WC.seq ?_
    refine WC.region ?_
    refine WL.y (Yl.move rfl) rfl ?_ -- t21
    refine WL.y (Yl.gtr rfl rfl) rfl ?_ -- t22
    refine WL.nil ?_
    refine WC.condD rfl (fun g22 => ?_) (fun g22 => ?_)
    · refine WC.seq ?_
      refine WC.region ?_
      refine WL.y (Yl.move rfl) rfl ?_ -- t23
      refine WL.y (Yl.conv un92 un3 rfl (IntWalk.i64_in _ (by omega))) rfl ?_ -- t24
      refine WL.y (Yl.move rfl) rfl ?_ -- t25
      have hp0 : 0 < p2.length := by omega
      obtain ⟨j, hj⟩ : ∃ j : Nat, (j : Int) = k % (p2.length : Int) := ⟨(k % (p2.length : Int)).toNat, by have := Int.emod_nonneg k (b := (p2.length : Int)) (by omega); omega⟩
      have hjl : j < p2.length := by have := Int.emod_lt_of_pos k (b := (p2.length : Int)) (by omega); omega
      have hjt : (k % (p2.length : Int)).toNat = j := by omega
      obtain ⟨x, hxx⟩ : ∃ x, p2[j]? = some x := ⟨_, List.getElem?_eq_getElem hjl⟩
      have hxo := hpo.2.get hxx
      have h22 := Rc.cells_len hxo.len
      have hst : turnStep (p1, p2) k = (p1 ++ [x], p2.take j ++ p2.drop (j + 1)) := by
        unfold turnStep
        simp only [hp0, if_true, hjt, hxx]
      have hl1 : (p1 ++ [x]).length = p1.length + 1 := by simp
      have hl2 : (p2.take j ++ p2.drop (j + 1)).length = p2.length - 1 := by rw [List.length_append, List.length_take, List.length_drop]; omega
      refine WL.y (Yl.rem rfl rfl (by omega) (i64_rem (by omega))) rfl ?_ -- t26
      refine WL.say (t := 26) (v' := .int .i64 (j : Int)) rfl (by rw [hj]) ?_
      refine WL.y (Yl.assign rfl) rfl ?_ -- t10
      refine WL.nil ?_
      refine WC.seq ?_
      refine WC.region ?_
      refine WL.y (Yl.move rfl) rfl ?_ -- t27
      refine WL.y (Yl.move rfl) rfl ?_ -- t28
      refine WL.y (Yl.move rfl) rfl ?_ -- t29
      refine WL.y (Yl.index un22 sz31 rfl rfl (Reads.of (r := ownR (.slice a6 p2.length c6) 31 22 p2.length (vcs rcV p2)) RdOf.own (by repeat (first | exact Take1.head | apply Take1.tail))) rfl (by omega)) rfl ?_ -- t30
      refine WL.y (Yl.loadV (j := j) (u := x) vtR hpo.2 rfl (Reads.of (r := ownR (.slice a6 p2.length c6) 31 22 p2.length (vcs rcV p2)) RdOf.own (by repeat (first | exact Take1.head | apply Take1.tail))) rfl hxx) rfl ?_
      refine WL.to (To.buildSlice (vs := [.agg x.cells.toArray]) un22 zs31 rfl rfl (by simp [Value.cells, h22]) (by decide) (by decide)) rfl ?_ -- t32
      intro b32
      rw [flat1]
      refine WL.to (To.append sl22 rfl rfl (by repeat (first | exact Take1.head | apply Take1.tail)) (Reads.of (rdRc hxo) (by repeat (first | exact Take1.head | apply Take1.tail))) (Rc.ones _) (show _ = (p1 ++ [x]).length by omega) (show _ = vcs rcV (p1 ++ [x]) by rw [vcs_app, vcs_one]; rfl) (by unfold maxLen; omega) (by omega)) rfl ?_ -- t33
      rintro ⟨⟨ao33, c33⟩, hc33⟩
      dsimp only at hc33 ⊢
      refine WL.y (Yl.assign rfl) rfl ?_ -- t5
      refine WL.nil ?_
      refine WC.region ?_
      refine WL.y (Yl.move rfl) rfl ?_ -- t34
      refine WL.y (Yl.move rfl) rfl ?_ -- t35
      refine WL.y (Yl.move rfl) rfl ?_ -- t36
      refine WL.y (Yl.add rfl rfl (IntWalk.i64_in _ (by omega))) rfl ?_ -- t37
      refine WL.say (t := 37) (v' := .int .i64 ((j + 1 : Nat) : Int)) rfl (by rfl) ?_
      refine WL.callC (xs := [.tmp 34, .tmp 35, .tmp 37]) (cap := []) rfl rfl en34 (by repeat (first | exact TakeL.nil | (apply TakeL.cons; · repeat (first | exact Take1.head | apply Take1.tail)))) (fun w hw => delR_any a6 c6 p2 hpo.2 j (by omega) hjl w hw.left.here) rfl ?_ -- t38 slices.Delete[[]hailer/api.Record,hailer/api.Record]
      rintro ⟨⟩ -
      dsimp only [List.cons_append, List.nil_append]
      refine WL.y (Yl.assign rfl) rfl ?_ -- t6
      refine WL.nil ?_
      refine WC.region ?_
      refine WL.y (Yl.add rfl rfl (IntWalk.i64_in _ (by omega))) rfl ?_ -- t39
      refine WL.y (Yl.move rfl) rfl ?_ -- t15
      refine WL.nil ?_
      exact ⟨rfl, (i + 1, (ao33, c33), (a6, c6)), by dsimp only; omega, by dsimp only; omega, by dsimp only; rw [hnx, hst]; dsimp only; rw [hl2]; exact (by repeat (first | exact Sub.nil | refine Sub.cons rfl ?_)), _, by dsimp only; rw [hnx, hst]; dsimp only; rw [hl2]; exact (by repeat (first | exact TakeL.nil | (apply TakeL.cons; · repeat (first | exact Take1.head | apply Take1.tail))))⟩
    · refine WC.skip ?_
      refine WC.region ?_
      refine WL.y (Yl.add rfl rfl (IntWalk.i64_in _ (by omega))) rfl ?_ -- t39
      refine WL.y (Yl.move rfl) rfl ?_ -- t15
      refine WL.nil ?_
      have hst : turnStep (p1, p2) k = (p1, p2) := by
        unfold turnStep
        rw [if_neg (by dsimp only; omega)]
      exact ⟨rfl, (i + 1, (a5, c5), (a6, c6)), by dsimp only; omega, by dsimp only; omega, by dsimp only; rw [hnx, hst]; exact (by repeat (first | exact Sub.nil | refine Sub.cons rfl ?_)), _, by dsimp only; rw [hnx, hst]; exact (by repeat (first | exact TakeL.nil | (apply TakeL.cons; · repeat (first | exact Take1.head | apply Take1.tail))))⟩
  · refine WC.exit ?_
    refine WC.seq ?_
    have hik : i = ks.length := by omega
    subst hik
    rw [List.take_length] at hp
    refine WC.region ?_
    refine WL.y (Yl.move rfl) rfl ?_ -- t40
    refine WL.y (Yl.move rfl) rfl ?_ -- t41
    refine WL.to (To.append sl22 rfl rfl (by repeat (first | exact Take1.head | apply Take1.tail)) (Reads.of (r := ownR (.slice a6 p2.length c6) 31 22 p2.length (vcs rcV p2)) RdOf.own (by repeat (first | exact Take1.head | apply Take1.tail))) (vtR.ones _) (show _ = (turnF xs ks).length by omega) (show _ = vcs rcV (turnF xs ks) by unfold turnF; rw [hp, vcs_app]) (by unfold maxLen; omega) (by omega)) rfl ?_ -- t42
    rintro ⟨⟨ao42, c42⟩, hc42⟩
    dsimp only at hc42 ⊢
    refine WL.y (Yl.assign rfl) rfl ?_ -- t4
    refine WL.nil ?_
    refine WC.ret ?_
    repeat (first | (with_reducible refine peelT ?_) | (with_reducible refine peelB ?_) | (with_reducible refine peelTX ?_) | (with_reducible refine peelBX ?_) | (with_reducible refine peelBN ?_) | (with_reducible refine peelBO rfl ?_))
    exact ret1 (.inr rfl) Try.results27 rfl fun w' h => ⟨(ao42, c42), trivial, rfl, h.sub (by repeat (first | exact TakeL.nil | (apply TakeL.cons; · repeat (first | exact Take1.head | apply Take1.tail))))⟩
end Go.Proofs.Ytmcdbjbkkejbbaa
