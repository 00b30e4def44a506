/- Sums by a key, joined from either end: plain laws. -/
import Derived.Test.YtbgimajbehodnaaGreatDoorRepZ
import Derived.Test.YtbgimajbehodnaaGreatDoorRepC
import Derived.Test.YtbgimajbehodnaaGreatDoorLibAz
import Derived.Test.YtbgimajbehodnaaGreatDoorRepYV
import Derived.Test.YtbgimajbehodnaaGreatDoorLibZ
import Derived.Test.YtbgimajbehodnaaGreatDoorLibN
import Derived.Test.YtbgimajbehodnaaGreatDoorRows
import Derived.Lib.LaidTab
import Derived.LaidSub
import Derived.Shelf.Vars
namespace Go.Proofs.YtbgimajbehodnaaGreatDoor
open Go Go.RowKit
theorem fm_perm {K : List Int} (hn : K.Nodup) {a : Int} (ha : a ∈ K) (x : Rc) (f : Int → List Rc) : (K.flatMap fun k => if a = k then x :: f k else f k).Perm (x :: K.flatMap f) := by
  induction K with
  | nil => cases ha
  | cons k K ih =>
    rw [List.nodup_cons] at hn
    rw [List.flatMap_cons, List.flatMap_cons]
    by_cases e : a = k
    · subst e
      rw [if_pos rfl, List.cons_append]
      have h2 : (K.flatMap fun k => if a = k then x :: f k else f k) = K.flatMap f := by
        rw [List.flatMap_def, List.flatMap_def]
        congr 1
        refine List.map_congr_left fun b hb => ?_
        rw [if_neg (fun e => hn.1 (by rw [e]; exact hb))]
      rw [h2]
    · rw [if_neg e]
      rcases List.mem_cons.1 ha with h | h
      · exact absurd h e
      · exact (List.Perm.append_left (f k) (ih hn.2 h)).trans List.perm_middle
theorem sel_perm {key : Rc → Int} {K : List Int} (hn : K.Nodup) : ∀ {xs : List Rc}, (∀ x ∈ xs, key x ∈ K) → (K.flatMap fun k => selS key k xs).Perm xs
  | [], _ => by
    have : (K.flatMap fun k => selS key k []) = [] := by simp [selS]
    rw [this]
  | x :: xs, h => by
    have h1 := fm_perm hn (h x (by simp)) x (fun k => selS key k xs)
    have h2 : (fun k => selS key k (x :: xs)) = fun k => if key x = k then x :: selS key k xs else selS key k xs := by
      funext k
      unfold selS
      rw [List.filter_cons]
      by_cases e : key x = k
      · rw [if_pos (by simpa using e), if_pos e]
      · rw [if_neg (by simpa using e), if_neg e]
    rw [h2]
    exact h1.trans ((sel_perm hn fun y hy => h y (List.mem_cons_of_mem _ hy)).cons x)
theorem by_perm (key : Rc → Int) (xs : List Rc) : ((byK key xs).flatMap fun k => selS key k xs).Perm xs :=
  sel_perm (byK_nd key xs) fun x hx => (byK_mem key).2 ⟨x, hx, rfl⟩
end Go.Proofs.YtbgimajbehodnaaGreatDoor

namespace Go.Proofs.YtbgimajbehodnaaGreatDoor
open Go Go.RowKit
section
variable (key : Rc → Int)
/-- Those of the first i keys, and those of the last i ones. -/
def upF (xs : List Rc) (i : Nat) : List Rc := ((byK key xs).take i).flatMap fun k => selS key k xs
def dnF (xs : List Rc) (i : Nat) : List Rc := ((byK key xs).drop ((byK key xs).length - i)).flatMap fun k => selS key k xs
theorem fm_ok {xs : List Rc} (h : ∀ r ∈ xs, r.ok) (ks : List Int) : ∀ r ∈ ks.flatMap fun k => selS key k xs, r.ok := fun r hr => by
  obtain ⟨k, _, hr⟩ := List.mem_flatMap.1 hr
  exact selS_ok key h k r hr
theorem upF_zero (xs : List Rc) : sumS (upF key xs 0) = Sm.zero := by unfold upF; rw [List.take_zero]; rfl
theorem dnF_zero (xs : List Rc) : sumS (dnF key xs 0) = Sm.zero := by unfold dnF; rw [Nat.sub_zero, List.drop_length]; rfl
theorem upF_ok {xs : List Rc} (h : ∀ r ∈ xs, r.ok) (i : Nat) : (sumS (upF key xs i)).ok := sumS_ok (fm_ok key h _)
theorem dnF_ok {xs : List Rc} (h : ∀ r ∈ xs, r.ok) (i : Nat) : (sumS (dnF key xs i)).ok := sumS_ok (fm_ok key h _)
theorem upF_step {xs : List Rc} (h : ∀ r ∈ xs, r.ok) {i : Nat} {k : Int} (hk : (byK key xs)[i]? = some k) : joinS (sumS (upF key xs i)) (sumS (selS key k xs)) = sumS (upF key xs (i + 1)) := by
  unfold upF
  rw [← take_snoc _ _ _ hk, List.flatMap_append, List.flatMap_cons, List.flatMap_nil, List.append_nil, sumS_append (fm_ok key h _) (selS_ok key h k)]
theorem dnF_step {xs : List Rc} (h : ∀ r ∈ xs, r.ok) {i : Nat} {k : Int} (hi : i < (byK key xs).length) (hk : (byK key xs)[(byK key xs).length - 1 - i]? = some k) : joinS (sumS (selS key k xs)) (sumS (dnF key xs i)) = sumS (dnF key xs (i + 1)) := by
  unfold dnF
  obtain ⟨h1, h2⟩ := List.getElem?_eq_some_iff.1 hk
  have e : (byK key xs).drop ((byK key xs).length - (i + 1)) = k :: (byK key xs).drop ((byK key xs).length - i) := by
    rw [show (byK key xs).length - (i + 1) = (byK key xs).length - 1 - i by omega, List.drop_eq_getElem_cons h1, h2, show (byK key xs).length - 1 - i + 1 = (byK key xs).length - i by omega]
  rw [e, List.flatMap_cons, sumS_append (selS_ok key h k) (fm_ok key h _)]
theorem upF_all {xs : List Rc} (h : ∀ r ∈ xs, r.ok) : sumS (upF key xs (byK key xs).length) = sumS xs := by
  unfold upF
  rw [List.take_length]
  exact sumS_perm (by_perm key xs) (fm_ok key h _)
theorem dnF_all {xs : List Rc} (h : ∀ r ∈ xs, r.ok) : sumS (dnF key xs (byK key xs).length) = sumS xs := by
  unfold dnF
  rw [Nat.sub_self, List.drop_zero]
  exact sumS_perm (by_perm key xs) (fm_ok key h _)
end
theorem ROk.app {a b : List Rc} (ha : ∀ r ∈ a, r.ok) (hb : ∀ r ∈ b, r.ok) : ∀ r ∈ a ++ b, r.ok := fun r hr => by
  rcases List.mem_append.1 hr with h | h
  · exact ha r h
  · exact hb r h
theorem join3 {a b c : List Rc} (ha : ∀ r ∈ a, r.ok) (hb : ∀ r ∈ b, r.ok) (hc : ∀ r ∈ c, r.ok) : joinS (sumS a) (joinS (sumS b) (sumS c)) = sumS (a ++ b ++ c) := by
  rw [sumS_append (ROk.app ha hb) hc, sumS_append ha hb, joinS_assoc (sumS_ok ha) (sumS_ok hb) (sumS_ok hc)]
theorem join3' {a b c : List Rc} (ha : ∀ r ∈ a, r.ok) (hb : ∀ r ∈ b, r.ok) (hc : ∀ r ∈ c, r.ok) : joinS (joinS (sumS c) (sumS a)) (sumS b) = sumS (a ++ b ++ c) := by
  have h1 := sumS_ok ha
  have h2 := sumS_ok hb
  have h3 := sumS_ok hc
  rw [← join3 ha hb hc, joinS_comm (joinS_ok h3 h1) h2, joinS_comm h3 h1, joinS_assoc h2 h1 h3, joinS_comm h2 h1, ← joinS_assoc h1 h2 h3]
end Go.Proofs.YtbgimajbehodnaaGreatDoor

namespace Go.Proofs.YtbgimajbehodnaaGreatDoor
open Go Go.RowKit
theorem lsFlat_take {ls : List (List Rc)} (k : Nat) : (ls.take k).flatten.length ≤ ls.flatten.length := by
  have h : (ls.take k).flatten ++ (ls.drop k).flatten = ls.flatten := by rw [← List.flatten_append, List.take_append_drop]
  rw [← h, List.length_append]
  omega
set_option maxRecDepth 100000 in
theorem growR_nil (n : Nat) (hn : n ≤ 1000000) (w : World) (hw : OK w (fpL []) [] w) :
    Fn Tryz.prog 49 [.slice none 0 0, .int .i64 (n : Int)] [] w (fun _ : Option Addr × Nat => True) (fun y => .slice y.1 0 y.2) (fun y => [ownR (.slice y.1 0 y.2) 45 22 0 []]) := by
  refine enterF Tryz.func49 rfl Tryz.ntmps49 rfl hw ?_
  refine WC.seq ?_
  refine WC.region ?_
  refine WL.y (Yl.assign rfl) rfl ?_
  refine WL.nil ?_
  refine WC.seq ?_
  refine WC.seq ?_
  refine WC.region ?_
  refine WL.y (Yl.move rfl) rfl ?_
  refine WL.y (Yl.lss rfl rfl) rfl ?_
  refine WL.nil ?_
  refine WC.condF rfl (by first | rfl | (simp; done) | (simp; omega)) ?_
  refine WC.skip ?_
  refine WC.seq ?_
  refine WC.seq ?_
  refine WC.region ?_
  refine WL.y (Yl.move rfl) rfl ?_
  refine WL.y (Yl.move rfl) rfl ?_
  refine WL.y (Yl.cap un33 rfl) rfl ?_
  refine WL.y (Yl.move rfl) rfl ?_
  refine WL.y (Yl.len un33 rfl) rfl ?_
  refine WL.y (Yl.sub rfl rfl (IntWalk.i64_in _ (by omega))) rfl ?_
  refine WL.y (Yl.sub rfl rfl (IntWalk.i64_in _ (by omega))) rfl ?_
  refine WL.say (t := 14) (v' := .int .i64 (n : Int)) rfl (by (refine congrArg _ ?_; omega)) ?_
  refine WL.y (Yl.assign rfl) rfl ?_
  refine WL.nil ?_
  refine WC.seq ?_
  refine WC.region ?_
  refine WL.y (Yl.move rfl) rfl ?_
  refine WL.y (Yl.gtr rfl rfl) rfl ?_
  refine WL.nil ?_
  refine WC.condD rfl (fun g16 => ?_) (fun g16 => ?_)
  · refine WC.region ?_
    refine WL.y (Yl.move rfl) rfl ?_
    refine WL.y (Yl.move rfl) rfl ?_
    refine WL.y (Yl.cap un33 rfl) rfl ?_
    refine WL.y (Yl.slice (l := 0) (h := 0) un33 sz45 rfl rfl ⟨_, rfl⟩ (by omega) (by omega)) rfl ?_
    refine WL.say (t := 20) (v' := .slice none 0 0) rfl (by rfl) ?_
    refine WL.y (Yl.move rfl) rfl ?_
    refine WL.to (To.appendZ0N sl33 un3 rfl rfl (by omega) rfl (by unfold maxLen; omega) (by omega)) rfl ?_
    rintro ⟨⟨b22, c22⟩, hc22⟩
    dsimp only at hc22 ⊢
    refine WL.y (Yl.move rfl) rfl ?_
    refine WL.y (Yl.len un33 rfl) rfl ?_
    refine WL.y (Yl.slice (l := 0) (h := 0) un33 sz45 rfl rfl ⟨_, rfl⟩ (by omega) (by omega)) rfl ?_
    refine WL.say (t := 25) (v' := .slice (some ⟨b22, 0, none⟩) 0 c22) rfl (by (unfold subS; simp [Addr.add])) ?_
    refine WL.y (Yl.assign rfl) rfl ?_
    refine WL.nil ?_
    refine WC.seq ?_
    refine WC.region ?_
    refine WL.y (Yl.move rfl) rfl ?_
    refine WL.y (Yl.assign rfl) rfl ?_
    refine WL.nil ?_
    refine WC.ret ?_
    repeat (with_reducible (first | refine peelT ?_ | refine peelB ?_ | refine peelTX ?_ | refine peelBX ?_ | refine peelBN ?_ | refine peelBO rfl ?_))
    exact ret1 (.inr rfl) Tryz.results49 rfl fun w' h => ⟨(some ⟨b22, 0, none⟩, c22), trivial, rfl, by
      have h2 := h.subG .head (l := 0) (hh := 0) (m := c22) (by omega) (by omega) (by omega) (by omega) rfl
      have e : subS (.slice (some ⟨b22, 0, none⟩) n c22) 0 0 c22 22 = .slice (some ⟨b22, 0, none⟩) 0 c22 := by unfold subS; simp [Addr.add]
      rw [e] at h2
      simp only [Nat.sub_self, Nat.zero_mul, List.take_zero] at h2
      exact h2.sub (by repeat' constructor)⟩
  · refine WC.skip ?_
    refine WC.seq ?_
    refine WC.region ?_
    refine WL.y (Yl.move rfl) rfl ?_
    refine WL.y (Yl.assign rfl) rfl ?_
    refine WL.nil ?_
    refine WC.ret ?_
    repeat (with_reducible (first | refine peelT ?_ | refine peelB ?_ | refine peelTX ?_ | refine peelBX ?_ | refine peelBN ?_ | refine peelBO rfl ?_))
    exact ret1 (.inr rfl) Tryz.results49 rfl fun w' h => ⟨(none, 0), trivial, rfl, (h.addNil 45 22).sub (by repeat' constructor)⟩

theorem concatR_any (ls : List (List Rc)) (vs : List Value) (lv : Value) (hG : ∀ l ∈ ls, ROk l) (hvl : vs.length = ls.length) (htot : ls.flatten.length ≤ 1000000) (hmany : ls.length ≤ 100000) (w : World)
    (hlv : RdS w (fpL []) lv 1 ls.length vs) (hls : ∀ (i : Nat) v bs, vs[i]? = some v → ls[i]? = some bs → RdS w (fpL []) v 22 bs.length (vcs rcV bs)) (hw : OK w (fpL []) [] w) :
    Fn Tryz.prog 15 [lv] [] w (fun _ : Option Addr × Nat => True) (fun y => .slice y.1 ls.flatten.length y.2) (fun y => [ownR (.slice y.1 ls.flatten.length y.2) 45 22 ls.flatten.length (vcs rcV ls.flatten)]) := by
  obtain ⟨la, lc, rfl, hlcl, hlml⟩ := hlv.rd.form
  have fl : ∀ {i : Nat} {bs : List Rc}, ls[i]? = some bs → (ls.take (i + 1)).flatten = (ls.take i).flatten ++ bs := by
    intro i bs h
    rw [← take_snoc _ _ _ h, List.flatten_append]; simp
  have fle : ∀ i, (ls.take i).flatten.length ≤ ls.flatten.length := fun i => lsFlat_take i
  refine enterF Tryz.func15 rfl Tryz.ntmps15 rfl hw ?_
  refine WC.seq ?_
  refine WC.region ?_
  refine WL.y (Yl.assign rfl) rfl ?_
  refine WL.nil ?_
  refine WC.seq ?_
  refine WC.region ?_
  refine WL.y (Yl.assign rfl) rfl ?_
  refine WL.nil ?_
  refine WC.seq ?_
  refine WC.seq ?_
  refine WC.region ?_
  refine WL.y (Yl.move rfl) rfl ?_
  refine WL.y (Yl.len un105 rfl) rfl ?_
  refine WL.y (Yl.move rfl) rfl ?_
  refine WL.nil ?_
  refine WC.block ?_
  refine WC.loop (α := Nat) (fun k => [(0, .slice la ls.length lc), (3, .int .i64 ((ls.take k).flatten.length : Int)), (9, .slice la ls.length lc), (10, .int .i64 (ls.length : Int)), (11, .int .i64 (k : Int))]) (fun _ => []) (fun k => k ≤ ls.length) (fun k => ls.length - k) 0 (Nat.zero_le _) ⟨(by repeat' constructor), _, (by repeat' constructor)⟩ ?_
  intro k hk
  refine WC.seq ?_
  refine WC.region ?_
  refine WL.y (Yl.lss rfl rfl) rfl ?_
  refine WL.nil ?_
  refine WC.seq ?_
  refine WC.condD rfl (fun g12 => ?_) (fun g12 => ?_)
  · refine WC.skip ?_
    refine WC.seq ?_
    refine WC.block ?_
    refine WC.seq ?_
    refine WC.region ?_
    have hkl : k < ls.length := by omega
    obtain ⟨z, hz⟩ : ∃ z, ls[k]? = some z := ⟨_, List.getElem?_eq_getElem hkl⟩
    obtain ⟨v, hv⟩ : ∃ v, vs[k]? = some v := ⟨_, List.getElem?_eq_getElem (by omega)⟩
    have hzr := hls k v z hv hz
    obtain ⟨az, cz, rfl, _, _⟩ := hzr.rd.form
    have hf := fl hz
    have hle := fle (k + 1)
    rw [hf, List.length_append] at hle
    refine WL.y (Yl.index un105 sz33 rfl rfl (Reads.s hlv) rfl (by omega)) rfl ?_
    refine WL.y (Yl.loadE on33 rfl (Reads.s hlv) hv) rfl ?_
    refine WL.y (Yl.assign rfl) rfl ?_
    refine WL.nil ?_
    refine WC.seq ?_
    refine WC.region ?_
    refine WL.y (Yl.move rfl) rfl ?_
    refine WL.y (Yl.move rfl) rfl ?_
    refine WL.y (Yl.len un33 rfl) rfl ?_
    refine WL.y (Yl.add rfl rfl (IntWalk.i64_in _ (by omega))) rfl ?_
    refine WL.say (t := 18) (v' := .int .i64 ((ls.take (k + 1)).flatten.length : Int)) rfl (by (refine congrArg _ ?_; rw [hf, List.length_append]; omega)) ?_
    refine WL.y (Yl.assign rfl) rfl ?_
    refine WL.nil ?_
    refine WC.seq ?_
    refine WC.region ?_
    refine WL.y (Yl.move rfl) rfl ?_
    refine WL.y (Yl.lss rfl rfl) rfl ?_
    refine WL.nil ?_
    refine WC.condF rfl (by first | rfl | (simp; done) | (simp; omega)) ?_
    refine WC.skip ?_
    refine WC.region ?_
    refine WL.y (Yl.add rfl rfl (IntWalk.i64_in _ (by omega))) rfl ?_
    refine WL.y (Yl.move rfl) rfl ?_
    refine WL.nil ?_
    exact ⟨rfl, k + 1, by omega, by omega, (by repeat' constructor), _, (by repeat' constructor)⟩
  · refine WC.exit ?_
    refine WC.seq ?_
    have hkl : k = ls.length := by omega
    subst hkl
    rw [List.take_length]
    refine WC.region ?_
    refine WL.y (Yl.move rfl) rfl ?_
    refine WL.callC (xs := [_, .tmp 23]) (cap := []) rfl rfl en49 (by repeat' constructor) (fun w hw => growR_nil ls.flatten.length htot w hw.left.here) rfl ?_
    rintro ⟨a24, c24⟩ -
    dsimp only
    refine WL.y (Yl.assign rfl) rfl ?_
    refine WL.nil ?_
    refine WC.seq ?_
    refine WC.seq ?_
    refine WC.region ?_
    refine WL.y (Yl.move rfl) rfl ?_
    refine WL.y (Yl.len un105 rfl) rfl ?_
    refine WL.y (Yl.move rfl) rfl ?_
    refine WL.nil ?_
    refine WC.block ?_
    refine WC.loop (α := Nat × (Option Addr × Nat)) (fun p => [(0, .slice la ls.length lc), (6, .slice p.2.1 (ls.take p.1).flatten.length p.2.2), (25, .slice la ls.length lc), (26, .int .i64 (ls.length : Int)), (27, .int .i64 (p.1 : Int))]) (fun p => [ownR (.slice p.2.1 (ls.take p.1).flatten.length p.2.2) 45 22 (ls.take p.1).flatten.length (vcs rcV (ls.take p.1).flatten)]) (fun p => p.1 ≤ ls.length) (fun p => ls.length - p.1) (0, (a24, c24)) (Nat.zero_le _) ⟨(by repeat' constructor), _, (by repeat' constructor)⟩ ?_
    rintro ⟨k, ao, ca⟩ hk
    dsimp only at hk ⊢
    refine WC.seq ?_
    refine WC.region ?_
    refine WL.y (Yl.lss rfl rfl) rfl ?_
    refine WL.nil ?_
    refine WC.seq ?_
    refine WC.condD rfl (fun g28 => ?_) (fun g28 => ?_)
    · refine WC.skip ?_
      refine WC.seq ?_
      refine WC.block ?_
      refine WC.seq ?_
      refine WC.region ?_
      have hkl : k < ls.length := by omega
      obtain ⟨z, hz⟩ : ∃ z, ls[k]? = some z := ⟨_, List.getElem?_eq_getElem hkl⟩
      obtain ⟨v, hv⟩ : ∃ v, vs[k]? = some v := ⟨_, List.getElem?_eq_getElem (by omega)⟩
      have hzr := hls k v z hv hz
      obtain ⟨az, cz, rfl, _, _⟩ := hzr.rd.form
      have hf := fl hz
      have hle := fle (k + 1)
      rw [hf, List.length_append] at hle
      refine WL.y (Yl.index un105 sz33 rfl rfl (Reads.s hlv) rfl (by omega)) rfl ?_
      refine WL.y (Yl.loadE on33 rfl (Reads.s hlv) hv) rfl ?_
      refine WL.y (Yl.assign rfl) rfl ?_
      refine WL.nil ?_
      refine WC.region ?_
      refine WL.y (Yl.move rfl) rfl ?_
      refine WL.y (Yl.move rfl) rfl ?_
      refine WL.to (To.append sl33 rfl rfl (by repeat constructor) (Reads.s hzr) (vtR.ones _) (show (ls.take k).flatten.length + z.length = (ls.take (k + 1)).flatten.length by rw [hf, List.length_append]) (show _ = vcs rcV (ls.take (k + 1)).flatten by rw [hf, vcs_app]) (by rw [hf, List.length_append]; unfold maxLen; omega) (by rw [hf, List.length_append]; omega)) rfl ?_
      rintro ⟨⟨ao33, c33⟩, hc33⟩
      dsimp only at hc33 ⊢
      refine WL.y (Yl.assign rfl) rfl ?_
      refine WL.nil ?_
      refine WC.region ?_
      refine WL.y (Yl.add rfl rfl (IntWalk.i64_in _ (by omega))) rfl ?_
      refine WL.y (Yl.move rfl) rfl ?_
      refine WL.nil ?_
      exact ⟨rfl, (k + 1, ao33, c33), by dsimp only; omega, by dsimp only; omega, (by repeat' constructor), _, (by repeat' constructor)⟩
    · refine WC.exit ?_
      refine WC.seq ?_
      refine WC.region ?_
      refine WL.y (Yl.move rfl) rfl ?_
      refine WL.y (Yl.assign rfl) rfl ?_
      refine WL.nil ?_
      refine WC.ret ?_
      repeat (with_reducible (first | refine peelT ?_ | refine peelB ?_ | refine peelTX ?_ | refine peelBX ?_ | refine peelBN ?_ | refine peelBO rfl ?_))
      have hkl : k = ls.length := by omega
      subst hkl
      rw [List.take_length]
      exact ret1 (.inr rfl) Tryz.results15 rfl fun w' h => ⟨(ao, ca), trivial, rfl, h.sub (by repeat' constructor)⟩
end Go.Proofs.YtbgimajbehodnaaGreatDoor

namespace Go.Proofs.YtbgimajbehodnaaGreatDoor
open Go Go.RowKit
theorem OK.toKy1 {w0 : World} {S : Pm} {H F : List Res} {w : World} {P : Program} {gk : Nat} {cap : List Value} {r : Res} {k : IntKind} {key : Rc → Int} (h : OK w0 S H w) (t : Take1 H r F) (hi : ∀ w, r.ok w → KyP P gk cap r.fp k key w) : OK w0 S (kyR P gk cap r.fp k key :: F) w :=
  OK.toKy (A := [r]) (h.perm t.perm) (hi w (h.get t)) (fun _ hk => ⟨r, List.mem_singleton.2 rfl, hk⟩)
theorem keyJ_ky (b7 : Nat) (by0 : Int) (hb : U64 by0) (w : World) (h7 : (blkR b7 34 [.int .u64 by0]).ok w) : KyP Tryz.prog 19 [.pointer (some ⟨b7, 0, none⟩)] (blkR b7 34 [.int .u64 by0]).fp .u64 (fun r : Rc => r.bg.emod (max by0 1)) w := by
  intro w' hc x hx
  have hw : OK w' (fpL []) [] w' := ok_same
  have h8 : w'.heap[b7]? = some (.cells #[Value.int .u64 by0] 34 (0, 0)) := hc.heap h7 (fun hn => hn rfl)
  have hB : BlkS w' (fpL []) b7 34 [.int .u64 by0] := fun w2 hc2 => hc2.heap h8 (by rintro ⟨r, hr, _⟩; cases hr)
  have h1 := hx.bg.1
  have h2 := hb.1
  refine enterF Tryz.func19 rfl Tryz.ntmps19 rfl hw ?_
  refine WC.seq ?_
  refine WC.region ?_
  refine WL.to (To.box (cs := x.cells) rfl rfl) rfl ?_
  intro b2
  refine WL.y (Yl.assign rfl) rfl ?_
  refine WL.nil ?_
  refine WC.seq ?_
  refine WC.region ?_
  refine WL.y (Yl.field fo45_4 rfl) rfl ?_
  refine WL.y (Yl.load on34 rfl (by repeat constructor) (Rc.c19 hx.len)) rfl ?_
  refine WL.y (Yl.loadS on34 rfl hB (by rfl)) rfl ?_
  refine WL.y (Yl.max2 rfl rfl) rfl ?_
  refine WL.say (t := 7) (v' := .int .u64 (max by0 1)) rfl (by (refine congrArg _ ?_; split <;> omega)) ?_
  refine WL.y (Yl.rem rfl rfl (by omega) (Int.tmod_eq_emod_of_nonneg h1)) rfl ?_
  refine WL.y (Yl.assign rfl) rfl ?_
  refine WL.nil ?_
  refine WC.ret ?_
  repeat (with_reducible (first | refine peelT ?_ | refine peelB ?_ | refine peelTX ?_ | refine peelBX ?_ | refine peelBN ?_ | refine peelBO rfl ?_))
  exact ret1 (.inr rfl) Tryz.results19 rfl fun w' h => ⟨(), trivial, rfl, h.sub (by repeat' constructor)⟩
theorem keyJ_wf {by0 : Int} (hb : U64 by0) {x : Rc} (hx : x.ok) : (Lit.int .u64 (x.bg.emod (max by0 1))).wf = true := by
  refine wf64 ?_
  have h1 := hx.bg
  unfold U64 at h1 hb ⊢
  have h2 := Int.emod_nonneg x.bg (show max by0 1 ≠ 0 by omega)
  have h3 := Int.emod_lt_of_pos x.bg (show 0 < max by0 1 by omega)
  exact ⟨h2, by have : x.bg.emod (max by0 1) < max by0 1 := h3; omega⟩
set_option maxRecDepth 100000 in
set_option maxHeartbeats 1600000 in
theorem joinsLaw_any (va vb vc : Value) (xa xb xc : List Rc) (hA : ROk xa) (hB : ROk xb) (hC : ROk xc) (na : xa.length ≤ 140737488355328) (nb : xb.length ≤ 140737488355328) (nc : xc.length ≤ 140737488355328) (by0 : Int) (hb0 : U64 by0) (w : World)
    (hw : OK w (fpL [rdR va 22 xa.length (vcs rcV xa), rdR vb 22 xb.length (vcs rcV xb), rdR vc 22 xc.length (vcs rcV xc), glR]) [rdR va 22 xa.length (vcs rcV xa), rdR vb 22 xb.length (vcs rcV xb), rdR vc 22 xc.length (vcs rcV xc), glR] w) :
    Fn Tryz.prog 4 [va, vb, vc, .int .u64 by0] [rdR va 22 xa.length (vcs rcV xa), rdR vb 22 xb.length (vcs rcV xb), rdR vc 22 xc.length (vcs rcV xc), glR] w (fun _ : Unit => True) (fun _ => .bool true) (fun _ => []) := by
  obtain ⟨aa, ca, rfl, hcla, hmla⟩ := (hw.get .head : Rd _ _ _ _ _).form
  obtain ⟨ab, cb, rfl, hclb, hmlb⟩ := (hw.get (.tail .head) : Rd _ _ _ _ _).form
  obtain ⟨ac, cc, rfl, hclc, hmlc⟩ := (hw.get (.tail (.tail .head)) : Rd _ _ _ _ _).form
  refine enterF Tryz.func4 rfl Tryz.ntmps4 rfl hw ?_
  refine WC.seq ?_
  refine WC.region ?_
  refine WL.to (To.box (cs := [.int .u64 by0]) rfl rfl) rfl ?_
  intro b7
  refine WL.y (Yl.assign rfl) rfl ?_
  refine WL.nil ?_
  refine WC.seq ?_
  refine WC.seq ?_
  refine WC.region ?_
  refine WL.callC (xs := []) (cap := []) rfl rfl en8 (by repeat' constructor) (fun w hw => known_any w hw.left.here) rfl ?_
  rintro ⟨⟩ -
  try dsimp only [List.cons_append, List.nil_append]
  refine WL.y (Yl.not rfl) rfl ?_
  refine WL.know (t := 21) (b' := false) rfl (by first | rfl | (simp; done) | (simp; omega)) ?_
  refine WL.nil ?_
  refine WC.condF rfl (by first | rfl | (simp; done) | (simp; omega)) ?_
  refine WC.skip ?_
  refine WC.seq ?_
  refine WC.seq ?_
  refine WC.region ?_
  refine WL.y (Yl.move rfl) rfl ?_
  refine WL.y (Yl.len un33 rfl) rfl ?_
  refine WL.y (Yl.move rfl) rfl ?_
  refine WL.y (Yl.len un33 rfl) rfl ?_
  refine WL.y (Yl.add (r := (xa.length : Int) + (xb.length : Int)) rfl rfl (IntWalk.i64_in _ (by omega))) rfl ?_
  refine WL.y (Yl.move rfl) rfl ?_
  refine WL.y (Yl.len un33 rfl) rfl ?_
  refine WL.y (Yl.add (r := (xa.length : Int) + (xb.length : Int) + (xc.length : Int)) rfl rfl (IntWalk.i64_in _ (by omega))) rfl ?_
  refine WL.y (Yl.gtr rfl rfl) rfl ?_
  refine WL.nil ?_
  refine WC.condD rfl (fun g30 => ?_) (fun g30 => ?_)
  · refine WC.seq ?_
    refine WC.region ?_
    refine WL.y (Yl.assign rfl) rfl ?_
    refine WL.nil ?_
    refine WC.ret ?_
    repeat (with_reducible (first | refine peelT ?_ | refine peelB ?_ | refine peelTX ?_ | refine peelBX ?_ | refine peelBN ?_ | refine peelBO rfl ?_))
    exact ret1 (.inr rfl) Tryz.results4 rfl fun w' h => ⟨(), trivial, rfl, h.sub (by repeat' constructor)⟩
  · refine WC.skip ?_
    refine WC.seq ?_
    have hla : xa.length ≤ 300 := by omega
    have hlb : xb.length ≤ 300 := by omega
    have hlc : xc.length ≤ 300 := by omega
    have hl3 : xa.length + xb.length + xc.length ≤ 300 := by omega
    have hsA := sumS_ok hA
    have hsB := sumS_ok hB
    have hsC := sumS_ok hC
    refine WC.region ?_
    refine WL.y (Yl.move rfl) rfl ?_
    refine WL.view (fun w h => h.dup (r := rdR (.slice aa xa.length ca) 22 xa.length (vcs rcV xa)) (by repeat constructor) (fun _ h => h)) ?_
    refine WL.callC (xs := [.tmp 31]) (cap := []) rfl rfl en14 (by repeat' constructor) (fun w hw => val_any (.slice aa xa.length ca) xa hA (by omega) w hw.left.here) rfl ?_
    rintro ⟨v1, o1⟩ -
    try dsimp only
    refine WL.callC (xs := [.tmp 32]) (cap := []) rfl rfl en13 (by repeat' constructor) (fun w hw => ofN_any 48 [.pointer (some ⟨v1, 0, none⟩)] o1 xa hA en48 w hw.left.here) rfl ?_
    rintro ⟨⟩ -
    refine WL.y (Yl.move rfl) rfl ?_
    refine WL.view (fun w h => h.dup (r := rdR (.slice ab xb.length cb) 22 xb.length (vcs rcV xb)) (by repeat constructor) (fun _ h => h)) ?_
    refine WL.callC (xs := [.tmp 34]) (cap := []) rfl rfl en14 (by repeat' constructor) (fun w hw => val_any (.slice ab xb.length cb) xb hB (by omega) w hw.left.here) rfl ?_
    rintro ⟨v2, o2⟩ -
    try dsimp only
    refine WL.callC (xs := [.tmp 35]) (cap := []) rfl rfl en13 (by repeat' constructor) (fun w hw => ofN_any 48 [.pointer (some ⟨v2, 0, none⟩)] o2 xb hB en48 w hw.left.here) rfl ?_
    rintro ⟨⟩ -
    refine WL.y (Yl.move rfl) rfl ?_
    refine WL.view (fun w h => h.dup (r := rdR (.slice ac xc.length cc) 22 xc.length (vcs rcV xc)) (by repeat constructor) (fun _ h => h)) ?_
    refine WL.callC (xs := [.tmp 37]) (cap := []) rfl rfl en14 (by repeat' constructor) (fun w hw => val_any (.slice ac xc.length cc) xc hC (by omega) w hw.left.here) rfl ?_
    rintro ⟨v3, o3⟩ -
    try dsimp only
    refine WL.callC (xs := [.tmp 38]) (cap := []) rfl rfl en13 (by repeat' constructor) (fun w hw => ofN_any 48 [.pointer (some ⟨v3, 0, none⟩)] o3 xc hC en48 w hw.left.here) rfl ?_
    rintro ⟨⟩ -
    refine WL.to (To.alloc (cs := Sm.zero.cells) zr37 rfl) rfl ?_
    intro b9
    refine WL.to (To.alloc (cs := Sm.zero.cells) zr37 rfl) rfl ?_
    intro b10
    refine WL.to (To.alloc (cs := Sm.zero.cells) zr37 rfl) rfl ?_
    intro b11
    refine WL.sto (Sto.agg sz37 rfl rfl (by repeat constructor) (Sm.ones _) (Sm.cells_len hsA.ol) (by rfl) (putAll rfl)) (fun _ h => nomatch h) ?_
    refine WL.sto (Sto.agg sz37 rfl rfl (by repeat constructor) (Sm.ones _) (Sm.cells_len hsB.ol) (by rfl) (putAll rfl)) (fun _ h => nomatch h) ?_
    refine WL.sto (Sto.agg sz37 rfl rfl (by repeat constructor) (Sm.ones _) (Sm.cells_len hsC.ol) (by rfl) (putAll rfl)) (fun _ h => nomatch h) ?_
    refine WL.nil ?_
    refine WC.seq ?_
    refine WC.region ?_
    refine WL.y (Yl.move rfl) rfl ?_
    refine WL.y (Yl.move rfl) rfl ?_
    refine WL.y (Yl.move rfl) rfl ?_
    refine WL.to (To.buildSlice (vs := [.slice aa xa.length ca, .slice ab xb.length cb, .slice ac xc.length cc]) un105 zs33 rfl rfl (by intro v hv; simp at hv; rcases hv with rfl | rfl | rfl <;> rfl) (by decide) (by decide)) rfl ?_
    intro b43
    refine WL.callC (xs := [.tmp 43]) (cap := []) rfl rfl en15 (by repeat' constructor) (fun w hw => concatR_any [xa, xb, xc] [.slice aa xa.length ca, .slice ab xb.length cb, .slice ac xc.length cc] (.slice (some ⟨b43, 0, none⟩) 3 3) (by intro l hl; simp at hl; rcases hl with rfl | rfl | rfl; exact hA; exact hB; exact hC) rfl (by simp; omega) (by simp) w (hw.src (A := []) (RdOf.blk (b := b43) (off := 0) (size := 1) (n := 3) (cap := 3) (cs := [.slice aa xa.length ca, .slice ab xb.length cb, .slice ac xc.length cc]) (cs' := [.slice aa xa.length ca, .slice ab xb.length cb, .slice ac xc.length cc]) (Nat.le_refl _) (by unfold maxLen; omega) (Nat.le_refl _) rfl) (by repeat constructor)) (fun i v bs hv hb => by
        match i, hv, hb with
        | 0, hv, hb => cases hv; cases hb; exact hw.src (A := []) (r := rdR (.slice aa xa.length ca) 22 xa.length (vcs rcV xa)) RdOf.rd' (by repeat constructor)
        | 1, hv, hb => cases hv; cases hb; exact hw.src (A := []) (r := rdR (.slice ab xb.length cb) 22 xb.length (vcs rcV xb)) RdOf.rd' (by repeat constructor)
        | 2, hv, hb => cases hv; cases hb; exact hw.src (A := []) (r := rdR (.slice ac xc.length cc) 22 xc.length (vcs rcV xc)) RdOf.rd' (by repeat constructor)
        | _ + 3, hv, hb => simp at hv) hw.left.here) rfl ?_
    rintro ⟨aL, cL⟩ -
    try dsimp only [List.cons_append, List.nil_append]
    have hfl : [xa, xb, xc].flatten = xa ++ xb ++ xc := by simp
    rw [hfl]
    have hLL : (xa ++ xb ++ xc).length ≤ 300 := by simp only [List.length_append]; omega
    have hL : ROk (xa ++ xb ++ xc) := ROk.app (ROk.app hA hB) hC
    have hj1 := join3 hA hB hC
    have hj2 := join3' hA hB hC
    generalize xa ++ xb ++ xc = L at hLL hL hj1 hj2 ⊢
    have hsL := sumS_ok hL
    have hz1 := joinS_zero hsL
    have hz2 := zero_joinS hsL
    refine WL.view (fun w h => h.readOnly (v := .slice aL L.length cL) (e := 45) (size := 22) (n := L.length) (cs := vcs rcV L) (by repeat constructor)) ?_
    refine WL.y (Yl.assign rfl) rfl ?_
    refine WL.nil ?_
    refine WC.seq ?_
    refine WC.region ?_
    refine WL.y (Yl.move rfl) rfl ?_
    refine WL.view (fun w h => h.dup (r := rdR (.slice aL L.length cL) 22 L.length (vcs rcV L)) (by repeat constructor) (fun _ h => h)) ?_
    refine WL.callC (xs := [.tmp 45]) (cap := []) rfl rfl en14 (by repeat' constructor) (fun w hw => val_any (.slice aL L.length cL) L hL (by omega) w hw.left.here) rfl ?_
    rintro ⟨v4, o4⟩ -
    try dsimp only
    refine WL.callC (xs := [.tmp 46]) (cap := []) rfl rfl en13 (by repeat' constructor) (fun w hw => ofN_any 48 [.pointer (some ⟨v4, 0, none⟩)] o4 L hL en48 w hw.left.here) rfl ?_
    rintro ⟨⟩ -
    refine WL.to (To.alloc (cs := Sm.zero.cells) zr37 rfl) rfl ?_
    intro b13
    refine WL.sto (Sto.agg sz37 rfl rfl (by repeat constructor) (Sm.ones _) (Sm.cells_len hsL.ol) (by rfl) (putAll rfl)) (fun _ h => nomatch h) ?_
    refine WL.nil ?_
    refine WC.seq ?_
    refine WC.seq ?_
    generalize sumS xa = SA at hsA hj1 hj2 ⊢
    generalize sumS xb = SB at hsB hj1 hj2 ⊢
    generalize sumS xc = SC at hsC hj1 hj2 ⊢
    obtain ⟨SL, hSL⟩ : ∃ SL, SL = sumS L := ⟨_, rfl⟩
    rw [← hSL] at hj1 hj2 hz1 hz2 hsL ⊢
    have hlA := hsA.ol
    have hlB := hsB.ol
    have hlC := hsC.ol
    have hlL := hsL.ol
    refine WC.drawAny (Hs := [blkR b9 37 SA.cells, blkR b10 37 SB.cells, blkR b11 37 SC.cells, blkR b13 37 SL.cells]) mixed (by kernel_rfl) ⟨_, (by repeat' constructor)⟩ ?_
    refine WD.tk 0 rfl (by kernel_rfl) rfl rfl (Yl.loadN ag37 rfl (by repeat constructor) (leBl (by rw [Sm.cells_len hlA]; omega)) (Sm.call hlA)) rfl ?_
    refine WD.tk 1 rfl (by kernel_rfl) rfl rfl (Yl.loadN ag37 rfl (by repeat constructor) (leBl (by rw [Sm.cells_len hlB]; omega)) (Sm.call hlB)) rfl ?_
    refine WD.tk 2 rfl (by kernel_rfl) rfl rfl (Yl.loadN ag37 rfl (by repeat constructor) (leBl (by rw [Sm.cells_len hlC]; omega)) (Sm.call hlC)) rfl ?_
    refine WD.tk 5 rfl (by kernel_rfl) rfl rfl (Yl.loadN ag37 rfl (by repeat constructor) (leBl (by rw [Sm.cells_len hlL]; omega)) (Sm.call hlL)) rfl ?_
    refine WD.one 3 (by kernel_rfl) ?_
    refine WO.callC (xs := [.tmp 49, .tmp 50]) (cap := []) rfl .no rfl rfl en16 (by repeat' constructor) (fun w hw => join_any SB SC hsB hsC w hw.left.here) rfl (fun _ => ⟨_, (by repeat' constructor)⟩) ?_
    rintro ⟨⟩ -
    refine WD.one 4 (by kernel_rfl) ?_
    refine WO.callC (xs := [.tmp 48, .tmp 51]) (cap := []) rfl .no rfl rfl en16 (by repeat' constructor) (fun w hw => join_any SA (joinS SB SC) hsA (joinS_ok hsB hsC) w hw.left.here) rfl (fun _ => ⟨_, (by repeat' constructor)⟩) ?_
    rintro ⟨⟩ -
    rw [hj1]
    refine WD.tk 6 rfl (by kernel_rfl) rfl rfl (Yl.neA (xs := SL.cells) (ys := SL.cells) flSum rfl rfl hsL.fits hsL.fits) rfl ?_
    refine WD.know (t := 54) (b' := false) rfl (by rw [eqV_self]; rfl) ?_
    refine WD.tk 7 rfl (by kernel_rfl) rfl rfl (Yl.move rfl) rfl ?_
    refine WD.takeOn 8 rfl (by kernel_rfl) (by kernel_rfl) (by kernel_rfl) rfl rfl rfl rfl (Yl.loadN ag37 rfl (by repeat constructor) (leBl (by rw [Sm.cells_len hlC]; omega)) (Sm.call hlC)) rfl ?_
    refine WD.takeOn 9 rfl (by kernel_rfl) (by kernel_rfl) (by kernel_rfl) rfl rfl rfl rfl (Yl.loadN ag37 rfl (by repeat constructor) (leBl (by rw [Sm.cells_len hlA]; omega)) (Sm.call hlA)) rfl ?_
    refine WD.takeOn 11 rfl (by kernel_rfl) (by kernel_rfl) (by kernel_rfl) rfl rfl rfl rfl (Yl.loadN ag37 rfl (by repeat constructor) (leBl (by rw [Sm.cells_len hlB]; omega)) (Sm.call hlB)) rfl ?_
    refine WD.takeOn 13 rfl (by kernel_rfl) (by kernel_rfl) (by kernel_rfl) rfl rfl rfl rfl (Yl.loadN ag37 rfl (by repeat constructor) (leBl (by rw [Sm.cells_len hlL]; omega)) (Sm.call hlL)) rfl ?_
    refine WD.one 10 (by kernel_rfl) ?_
    refine WO.callC (xs := [.tmp 56, .tmp 57]) (cap := []) rfl (.on rfl rfl) rfl rfl en16 (by repeat' constructor) (fun w hw => join_any SC SA hsC hsA w hw.left.here) rfl (fun _ => ⟨_, (by repeat' constructor)⟩) ?_
    rintro ⟨⟩ -
    refine WD.one 12 (by kernel_rfl) ?_
    refine WO.callC (xs := [.tmp 58, .tmp 59]) (cap := []) rfl (.on rfl rfl) rfl rfl en16 (by repeat' constructor) (fun w hw => join_any (joinS SC SA) SB (joinS_ok hsC hsA) hsB w hw.left.here) rfl (fun _ => ⟨_, (by repeat' constructor)⟩) ?_
    rintro ⟨⟩ -
    rw [hj2]
    refine WD.takeOn 14 rfl (by kernel_rfl) (by kernel_rfl) (by kernel_rfl) rfl rfl rfl rfl (Yl.neA (xs := SL.cells) (ys := SL.cells) flSum rfl rfl hsL.fits hsL.fits) rfl ?_
    refine WD.know (t := 62) (b' := false) rfl (by rw [eqV_self]; rfl) ?_
    refine WD.tk 15 rfl (by kernel_rfl) rfl rfl (Yl.pickF rfl rfl) rfl ?_
    refine WD.tk 16 rfl (by kernel_rfl) rfl rfl (Yl.move rfl) rfl ?_
    refine WD.takeOn 17 rfl (by kernel_rfl) (by kernel_rfl) (by kernel_rfl) rfl rfl rfl rfl (Yl.loadN ag37 rfl (by repeat constructor) (leBl (by rw [Sm.cells_len hlL]; omega)) (Sm.call hlL)) rfl ?_
    refine WD.takeOn 18 rfl (by kernel_rfl) (by kernel_rfl) (by kernel_rfl) rfl rfl rfl rfl (Yl.build rfl (cs := Sm.zero.cells) (fun _ => by kernel_rfl)) rfl ?_
    refine WD.takeOn 20 rfl (by kernel_rfl) (by kernel_rfl) (by kernel_rfl) rfl rfl rfl rfl (Yl.loadN ag37 rfl (by repeat constructor) (leBl (by rw [Sm.cells_len hlL]; omega)) (Sm.call hlL)) rfl ?_
    refine WD.one 19 (by kernel_rfl) ?_
    refine WO.callC (xs := [.tmp 65, .tmp 66]) (cap := []) rfl (.on rfl rfl) rfl rfl en16 (by repeat' constructor) (fun w hw => join_any SL Sm.zero hsL Sm.zero_ok w hw.left.here) rfl (fun _ => ⟨_, (by repeat' constructor)⟩) ?_
    rintro ⟨⟩ -
    rw [hz1]
    refine WD.takeOn 21 rfl (by kernel_rfl) (by kernel_rfl) (by kernel_rfl) rfl rfl rfl rfl (Yl.neA (xs := SL.cells) (ys := SL.cells) flSum rfl rfl hsL.fits hsL.fits) rfl ?_
    refine WD.know (t := 69) (b' := false) rfl (by rw [eqV_self]; rfl) ?_
    refine WD.tk 22 rfl (by kernel_rfl) rfl rfl (Yl.pickF rfl rfl) rfl ?_
    refine WD.tk 23 rfl (by kernel_rfl) rfl rfl (Yl.move rfl) rfl ?_
    refine WD.takeOn 24 rfl (by kernel_rfl) (by kernel_rfl) (by kernel_rfl) rfl rfl rfl rfl (Yl.build rfl (cs := Sm.zero.cells) (fun _ => by kernel_rfl)) rfl ?_
    refine WD.takeOn 25 rfl (by kernel_rfl) (by kernel_rfl) (by kernel_rfl) rfl rfl rfl rfl (Yl.loadN ag37 rfl (by repeat constructor) (leBl (by rw [Sm.cells_len hlL]; omega)) (Sm.call hlL)) rfl ?_
    refine WD.takeOn 27 rfl (by kernel_rfl) (by kernel_rfl) (by kernel_rfl) rfl rfl rfl rfl (Yl.loadN ag37 rfl (by repeat constructor) (leBl (by rw [Sm.cells_len hlL]; omega)) (Sm.call hlL)) rfl ?_
    refine WD.one 26 (by kernel_rfl) ?_
    refine WO.callC (xs := [.tmp 72, .tmp 73]) (cap := []) rfl (.on rfl rfl) rfl rfl en16 (by repeat' constructor) (fun w hw => join_any Sm.zero SL Sm.zero_ok hsL w hw.left.here) rfl (fun _ => ⟨_, (by repeat' constructor)⟩) ?_
    rintro ⟨⟩ -
    rw [hz2]
    refine WD.takeOn 28 rfl (by kernel_rfl) (by kernel_rfl) (by kernel_rfl) rfl rfl rfl rfl (Yl.neA (xs := SL.cells) (ys := SL.cells) flSum rfl rfl hsL.fits hsL.fits) rfl ?_
    refine WD.know (t := 76) (b' := false) rfl (by rw [eqV_self]; rfl) ?_
    refine WD.tk 29 rfl (by kernel_rfl) rfl rfl (Yl.pickF rfl rfl) rfl ?_
    refine WD.done (by kernel_rfl) ?_
    refine WC.condF rfl (by first | rfl | (simp; done) | (simp; omega)) ?_
    refine WC.skip ?_
    refine WC.seq ?_
    refine WC.region ?_
    refine WL.to (To.alloc (cs := Sm.zero.cells) zr37 rfl) rfl ?_
    intro b14
    refine WL.to (To.alloc (cs := Sm.zero.cells) zr37 rfl) rfl ?_
    intro b15
    refine WL.nil ?_
    refine WC.seq ?_
    refine WC.region ?_
    refine WL.y (Yl.move rfl) rfl ?_
    refine WL.callC (xs := [.tmp 79]) (cap := []) rfl rfl en14 (by repeat' constructor) (fun w hw => val_any (.slice aL L.length cL) L hL (by omega) w hw.left.here) rfl ?_
    rintro ⟨v5, o5⟩ -
    try dsimp only
    refine WL.y (Yl.makeFunc (xs := []) (ys := [.tmp 7]) rfl rfl) rfl ?_
    refine WL.view (fun w h => OK.toKy1 (k := .u64) h (r := blkR b7 34 [.int .u64 by0]) (by repeat constructor) (keyJ_ky b7 by0 hb0)) ?_
    have hvl := byV_le (fun r : Rc => r.bg.emod (max by0 1)) L
    have hkl := byV_len (fun r : Rc => r.bg.emod (max by0 1)) L
    refine WL.callC (xs := [.tmp 80, .tmp 81]) (cap := []) rfl rfl en18 (by repeat' constructor) (fun w hw => byV_any 48 [.pointer (some ⟨v5, 0, none⟩)] o5 L hL (by omega) en48 19 [.pointer (some ⟨b7, 0, none⟩)] (blkR b7 34 [.int .u64 by0]).fp (fun r : Rc => r.bg.emod (max by0 1)) (fun x hx => keyJ_wf hb0 hx) en19 w hw.left.here) rfl ?_
    rintro ⟨z1, z2, o6⟩ -
    try dsimp only
    refine WL.callC (xs := [.tmp 82, _]) (cap := []) rfl rfl en17 (by repeat' constructor) (fun w hw => sumsV_any 51 [.pointer (some ⟨z1, 0, none⟩), .pointer (some ⟨z2, 0, none⟩)] o6 (byV (fun r : Rc => r.bg.emod (max by0 1)) L) (fun p hp => (byV_ok hL hp).2.ol) (by omega) en51 1000 (by decide) w hw.left.here) rfl ?_
    rintro ⟨⟨ak, ck⟩, ⟨az, cz⟩⟩ -
    unfold smRV
    rw [List.take_of_length_le (show (byV (fun r : Rc => r.bg.emod (max by0 1)) L).length ≤ 1000 by omega)]
    have hU0 := upF_zero (fun r : Rc => r.bg.emod (max by0 1)) L
    have hD0 := dnF_zero (fun r : Rc => r.bg.emod (max by0 1)) L
    have hUo := fun i => upF_ok (fun r : Rc => r.bg.emod (max by0 1)) hL i
    have hDo := fun i => dnF_ok (fun r : Rc => r.bg.emod (max by0 1)) hL i
    have hUs := fun i k h => upF_step (fun r : Rc => r.bg.emod (max by0 1)) hL (i := i) (k := k) h
    have hDs := fun i k h1 h2 => dnF_step (fun r : Rc => r.bg.emod (max by0 1)) hL (i := i) (k := k) h1 h2
    have hUa := upF_all (fun r : Rc => r.bg.emod (max by0 1)) hL
    have hDa := dnF_all (fun r : Rc => r.bg.emod (max by0 1)) hL
    rw [← hSL] at hUa hDa
    have hPo := fun k => sumS_ok (selS_ok (fun r : Rc => r.bg.emod (max by0 1)) hL k)
    have hVa : ∀ (j : Nat) k, (byK (fun r : Rc => r.bg.emod (max by0 1)) L)[j]? = some k → (byV (fun r : Rc => r.bg.emod (max by0 1)) L)[j]? = some (k, sumS (selS (fun r : Rc => r.bg.emod (max by0 1)) k L)) := fun j k hk => by
      unfold byV
      rw [List.getElem?_map, hk]
      rfl
    have hVo : ∀ s ∈ (byV (fun r : Rc => r.bg.emod (max by0 1)) L).map (·.2), s.oc.length = 8 := fun s hs => by
      obtain ⟨p, hp, rfl⟩ := List.mem_map.1 hs
      exact (byV_ok hL hp).2.ol
    generalize byV (fun r : Rc => r.bg.emod (max by0 1)) L = V at hvl hkl hVa hVo ⊢
    generalize byK (fun r : Rc => r.bg.emod (max by0 1)) L = K at hkl hVa hUs hDs hUa hDa
    try dsimp only [List.cons_append, List.nil_append]
    refine WL.y (Yl.move rfl) rfl ?_
    refine WL.y (Yl.extract rfl rfl) rfl ?_
    refine WL.y (Yl.extract rfl rfl) rfl ?_
    refine WL.y (Yl.assign rfl) rfl ?_
    refine WL.y (Yl.assign rfl) rfl ?_
    refine WL.nil ?_
    refine WC.seq ?_
    refine WC.seq ?_
    refine WC.region ?_
    refine WL.y (Yl.move rfl) rfl ?_
    refine WL.y (Yl.len un49 rfl) rfl ?_
    refine WL.y (Yl.move rfl) rfl ?_
    refine WL.nil ?_
    refine WC.block ?_
    refine WC.loop (α := Nat) (fun i => [(13, .pointer (some ⟨b13, 0, none⟩)), (14, .pointer (some ⟨b14, 0, none⟩)), (15, .pointer (some ⟨b15, 0, none⟩)), (17, .slice az V.length cz), (86, .slice az V.length cz), (87, .int .i64 (V.length : Int)), (88, .int .i64 (i : Int))]) (fun i => [blkR b13 37 SL.cells, blkR b14 37 (sumS (upF (fun r : Rc => r.bg.emod (max by0 1)) L i)).cells, blkR b15 37 (sumS (dnF (fun r : Rc => r.bg.emod (max by0 1)) L i)).cells, ownR (.slice az V.length cz) 37 15 V.length (vcs smV (V.map (·.2)))]) (fun i => i ≤ V.length) (fun i => V.length - i) 0 (Nat.zero_le _) ⟨(by repeat' constructor), _, by rw [hU0, hD0]; exact (by repeat' constructor)⟩ ?_
    intro i hi
    refine WC.seq ?_
    refine WC.region ?_
    refine WL.y (Yl.lss rfl rfl) rfl ?_
    refine WL.nil ?_
    refine WC.seq ?_
    refine WC.condD rfl (fun g89 => ?_) (fun g89 => ?_)
    · refine WC.skip ?_
      refine WC.seq ?_
      refine WC.block ?_
      refine WC.seq ?_
      refine WC.region ?_
      have hil : i < V.length := by omega
      obtain ⟨k, hk⟩ : ∃ k, K[i]? = some k := ⟨_, List.getElem?_eq_getElem (by omega)⟩
      obtain ⟨k2, hk2⟩ : ∃ k, K[K.length - 1 - i]? = some k := ⟨_, List.getElem?_eq_getElem (by omega)⟩
      have hv := hVa i k hk
      have hv2 := hVa (K.length - 1 - i) k2 hk2
      have hu1 := hUs i k hk
      have hd1 := hDs i k2 (by omega) hk2
      have hok1 := hPo k
      have hok2 := hPo k2
      have hou := hUo i
      have hod := hDo i
      have hou2 := hUo (i + 1)
      have hod2 := hDo (i + 1)
      generalize sumS (selS (fun r : Rc => r.bg.emod (max by0 1)) k L) = P1 at hv hu1 hok1
      generalize sumS (selS (fun r : Rc => r.bg.emod (max by0 1)) k2 L) = P2 at hv2 hd1 hok2
      generalize sumS (upF (fun r : Rc => r.bg.emod (max by0 1)) L i) = U at hu1 hou ⊢
      generalize sumS (dnF (fun r : Rc => r.bg.emod (max by0 1)) L i) = D at hd1 hod ⊢
      have hol1 := hok1.ol
      have hol2 := hok2.ol
      have holu := hou.ol
      have hold := hod.ol
      refine WL.y (Yl.move rfl) rfl ?_
      refine WL.y (Yl.index un49 sz37 rfl rfl (Reads.of (r := ownR (.slice az V.length cz) 37 15 V.length (vcs smV (V.map (·.2)))) RdOf.own (by repeat constructor)) rfl (by omega)) rfl ?_
      refine WL.y (Yl.loadV (j := i) (u := P1) vtSV hVo rfl (Reads.of (r := ownR (.slice az V.length cz) 37 15 V.length (vcs smV (V.map (·.2)))) RdOf.own (by repeat constructor)) (List.length_map _) (by rw [List.getElem?_map, hv]; rfl)) rfl ?_
      refine WL.to (To.alloc (cs := Sm.zero.cells) zr37 rfl) rfl ?_
      intro b19
      refine WL.y (Yl.assign rfl) rfl ?_
      refine WL.sto (Sto.agg sz37 rfl rfl (by repeat constructor) (Sm.ones _) (Sm.cells_len hol1) (by rfl) (putAll rfl)) (fun _ h => nomatch h) ?_
      refine WL.nil ?_
      refine WC.drawAny (Hs := [blkR b19 37 P1.cells, ownR (.slice az V.length cz) 37 15 V.length (vcs smV (V.map (·.2)))]) mixed (by kernel_rfl) ⟨_, (by repeat' constructor)⟩ ?_
      refine WD.tk 1 rfl (by kernel_rfl) rfl rfl (Yl.loadN ag37 rfl (by repeat constructor) (leBl (by rw [Sm.cells_len hol1]; omega)) (Sm.call hol1)) rfl ?_
      refine WD.tk 3 rfl (by kernel_rfl) rfl rfl (Yl.move rfl) rfl ?_
      refine WD.tk 4 rfl (by kernel_rfl) rfl rfl (Yl.move rfl) rfl ?_
      refine WD.tk 5 rfl (by kernel_rfl) rfl rfl (Yl.len un49 rfl) rfl ?_
      refine WD.tk 6 rfl (by kernel_rfl) rfl rfl (Yl.sub rfl rfl (IntWalk.i64_in _ (by omega))) rfl ?_
      refine WD.tk 7 rfl (by kernel_rfl) rfl rfl (Yl.move rfl) rfl ?_
      refine WD.tk 8 rfl (by kernel_rfl) rfl rfl (Yl.sub rfl rfl (IntWalk.i64_in _ (by omega))) rfl ?_
      refine WD.say (t := 101) (v' := .int .i64 ((K.length - 1 - i : Nat) : Int)) rfl (by (refine congrArg _ ?_; omega)) ?_
      refine WD.tk 9 rfl (by kernel_rfl) rfl rfl (Yl.index (j := K.length - 1 - i) un49 sz37 rfl rfl (Reads.of (r := ownR (.slice az V.length cz) 37 15 V.length (vcs smV (V.map (·.2)))) RdOf.own (by repeat constructor)) rfl (by omega)) rfl ?_
      refine WD.tk 10 rfl (by kernel_rfl) rfl rfl (Yl.loadV (j := K.length - 1 - i) (u := P2) vtSV hVo rfl (Reads.of (r := ownR (.slice az V.length cz) 37 15 V.length (vcs smV (V.map (·.2)))) RdOf.own (by repeat constructor)) (List.length_map _) (by rw [List.getElem?_map, hv2]; rfl)) rfl ?_
      refine WD.two 0 11 (by kernel_rfl) ?_ ?_
      · refine WO.y rfl rfl .no (Yl.loadN ag37 rfl (by repeat constructor) (leBl (by rw [Sm.cells_len holu]; omega)) (Sm.call holu)) rfl ?_
        refine WD.two 2 11 (by kernel_rfl) ?_ ?_
        · refine WO.callC (xs := [.tmp 93, .tmp 94]) (cap := []) rfl .no rfl rfl en16 (by repeat' constructor) (fun w hw => join_any U P1 hou hok1 w hw.left.here) rfl (fun _ => ⟨_, (by repeat' constructor)⟩) ?_
          rintro ⟨⟩ -
          rw [hu1]
          refine WD.one 11 (by kernel_rfl) ?_
          refine WO.y rfl rfl .no (Yl.loadN ag37 rfl (by repeat constructor) (leBl (by rw [Sm.cells_len hold]; omega)) (Sm.call hold)) rfl ?_
          refine WD.one 12 (by kernel_rfl) ?_
          refine WO.callC (xs := [.tmp 103, .tmp 104]) (cap := []) rfl .no rfl rfl en16 (by repeat' constructor) (fun w hw => join_any P2 D hok2 hod w hw.left.here) rfl (fun _ => ⟨_, (by repeat' constructor)⟩) ?_
          rintro ⟨⟩ -
          rw [hd1]
          refine WD.one 13 (by kernel_rfl) ?_
          refine WO.sto rfl rfl .no (Sto.agg sz37 rfl rfl (by repeat constructor) (Sm.ones _) (Sm.cells_len hou2.ol) (by rw [Sm.cells_len holu]; rfl) (putAll (Sm.cells_len holu))) ⟨_, (by repeat' constructor)⟩ ?_
          refine WD.one 14 (by kernel_rfl) ?_
          refine WO.sto rfl rfl .no (Sto.agg sz37 rfl rfl (by repeat constructor) (Sm.ones _) (Sm.cells_len hod2.ol) (by rw [Sm.cells_len hold]; rfl) (putAll (Sm.cells_len hold))) ⟨_, (by repeat' constructor)⟩ ?_
          refine WD.done (by kernel_rfl) ?_
          refine WC.region ?_
          refine WL.y (Yl.add rfl rfl (IntWalk.i64_in _ (by omega))) rfl ?_
          refine WL.y (Yl.move rfl) rfl ?_
          refine WL.nil ?_
          exact ⟨rfl, i + 1, by omega, by omega, (by repeat' constructor), _, (by repeat' constructor)⟩
        · refine WO.y rfl rfl .no (Yl.loadN ag37 rfl (by repeat constructor) (leBl (by rw [Sm.cells_len hold]; omega)) (Sm.call hold)) rfl ?_
          refine WD.one 2 (by kernel_rfl) ?_
          refine WO.callC (xs := [.tmp 93, .tmp 94]) (cap := []) rfl .no rfl rfl en16 (by repeat' constructor) (fun w hw => join_any U P1 hou hok1 w hw.left.here) rfl (fun _ => ⟨_, (by repeat' constructor)⟩) ?_
          rintro ⟨⟩ -
          rw [hu1]
          refine WD.one 12 (by kernel_rfl) ?_
          refine WO.callC (xs := [.tmp 103, .tmp 104]) (cap := []) rfl .no rfl rfl en16 (by repeat' constructor) (fun w hw => join_any P2 D hok2 hod w hw.left.here) rfl (fun _ => ⟨_, (by repeat' constructor)⟩) ?_
          rintro ⟨⟩ -
          rw [hd1]
          refine WD.one 13 (by kernel_rfl) ?_
          refine WO.sto rfl rfl .no (Sto.agg sz37 rfl rfl (by repeat constructor) (Sm.ones _) (Sm.cells_len hou2.ol) (by rw [Sm.cells_len holu]; rfl) (putAll (Sm.cells_len holu))) ⟨_, (by repeat' constructor)⟩ ?_
          refine WD.one 14 (by kernel_rfl) ?_
          refine WO.sto rfl rfl .no (Sto.agg sz37 rfl rfl (by repeat constructor) (Sm.ones _) (Sm.cells_len hod2.ol) (by rw [Sm.cells_len hold]; rfl) (putAll (Sm.cells_len hold))) ⟨_, (by repeat' constructor)⟩ ?_
          refine WD.done (by kernel_rfl) ?_
          refine WC.region ?_
          refine WL.y (Yl.add rfl rfl (IntWalk.i64_in _ (by omega))) rfl ?_
          refine WL.y (Yl.move rfl) rfl ?_
          refine WL.nil ?_
          exact ⟨rfl, i + 1, by omega, by omega, (by repeat' constructor), _, (by repeat' constructor)⟩
      · refine WO.y rfl rfl .no (Yl.loadN ag37 rfl (by repeat constructor) (leBl (by rw [Sm.cells_len hold]; omega)) (Sm.call hold)) rfl ?_
        refine WD.one 0 (by kernel_rfl) ?_
        refine WO.y rfl rfl .no (Yl.loadN ag37 rfl (by repeat constructor) (leBl (by rw [Sm.cells_len holu]; omega)) (Sm.call holu)) rfl ?_
        refine WD.one 2 (by kernel_rfl) ?_
        refine WO.callC (xs := [.tmp 93, .tmp 94]) (cap := []) rfl .no rfl rfl en16 (by repeat' constructor) (fun w hw => join_any U P1 hou hok1 w hw.left.here) rfl (fun _ => ⟨_, (by repeat' constructor)⟩) ?_
        rintro ⟨⟩ -
        rw [hu1]
        refine WD.one 12 (by kernel_rfl) ?_
        refine WO.callC (xs := [.tmp 103, .tmp 104]) (cap := []) rfl .no rfl rfl en16 (by repeat' constructor) (fun w hw => join_any P2 D hok2 hod w hw.left.here) rfl (fun _ => ⟨_, (by repeat' constructor)⟩) ?_
        rintro ⟨⟩ -
        rw [hd1]
        refine WD.one 13 (by kernel_rfl) ?_
        refine WO.sto rfl rfl .no (Sto.agg sz37 rfl rfl (by repeat constructor) (Sm.ones _) (Sm.cells_len hou2.ol) (by rw [Sm.cells_len holu]; rfl) (putAll (Sm.cells_len holu))) ⟨_, (by repeat' constructor)⟩ ?_
        refine WD.one 14 (by kernel_rfl) ?_
        refine WO.sto rfl rfl .no (Sto.agg sz37 rfl rfl (by repeat constructor) (Sm.ones _) (Sm.cells_len hod2.ol) (by rw [Sm.cells_len hold]; rfl) (putAll (Sm.cells_len hold))) ⟨_, (by repeat' constructor)⟩ ?_
        refine WD.done (by kernel_rfl) ?_
        refine WC.region ?_
        refine WL.y (Yl.add rfl rfl (IntWalk.i64_in _ (by omega))) rfl ?_
        refine WL.y (Yl.move rfl) rfl ?_
        refine WL.nil ?_
        exact ⟨rfl, i + 1, by omega, by omega, (by repeat' constructor), _, (by repeat' constructor)⟩
    · refine WC.exit ?_
      refine WC.seq ?_
      obtain rfl : i = V.length := by omega
      rw [hkl, hUa, hDa]
      refine WC.region ?_
      refine WL.y (Yl.loadN ag37 rfl (by repeat constructor) (leBl (by rw [Sm.cells_len hlL]; omega)) (Sm.call hlL)) rfl ?_
      refine WL.y (Yl.loadN ag37 rfl (by repeat constructor) (leBl (by rw [Sm.cells_len hlL]; omega)) (Sm.call hlL)) rfl ?_
      refine WL.y (Yl.eqA (xs := SL.cells) (ys := SL.cells) flSum rfl rfl hsL.fits hsL.fits) rfl ?_
      refine WL.know (t := 109) (b' := true) rfl (eqV_self _) ?_
      refine WL.y (Yl.move rfl) rfl ?_
      refine WL.on rfl rfl ?_
      refine WL.y (Yl.loadN ag37 rfl (by repeat constructor) (leBl (by rw [Sm.cells_len hlL]; omega)) (Sm.call hlL)) rfl ?_
      refine WL.on rfl rfl ?_
      refine WL.y (Yl.loadN ag37 rfl (by repeat constructor) (leBl (by rw [Sm.cells_len hlL]; omega)) (Sm.call hlL)) rfl ?_
      refine WL.on rfl rfl ?_
      refine WL.y (Yl.eqA (xs := SL.cells) (ys := SL.cells) flSum rfl rfl hsL.fits hsL.fits) rfl ?_
      refine WL.know (t := 113) (b' := true) rfl (eqV_self _) ?_
      refine WL.y (Yl.pickT rfl rfl) rfl ?_
      refine WL.y (Yl.assign rfl) rfl ?_
      refine WL.nil ?_
      refine WC.ret ?_
      repeat (with_reducible (first | refine peelT ?_ | refine peelB ?_ | refine peelTX ?_ | refine peelBX ?_ | refine peelBN ?_ | refine peelBO rfl ?_))
      exact ret1 (.inr rfl) Tryz.results4 rfl fun w' h => ⟨(), trivial, rfl, h.sub (by repeat' constructor)⟩
end Go.Proofs.YtbgimajbehodnaaGreatDoor

namespace Go.Proofs.YtbgimajbehodnaaGreatDoor
open Go Go.RowKit
theorem trod_ifc {H : Type} {enc : TypeId × Value → H} {P : Program} {w : World} {base : Nat} {spare : Nat → Bool} {held : Bool} {fuel : Nat} {t : TypeId} {cs : List Value} {x : DataW H × List MemPlace} (ht : isIfcB P t = true) (h : DataW.trod enc P w base spare held fuel t cs = some x) : ∃ v, cs = [v] ∧ (v = .nilIface ∨ ∃ te pe, v = .iface te pe) := by
  obtain ⟨ms, hms⟩ : ∃ ms, P.underlying t = some (.interface ms) := by
    unfold isIfcB at ht
    split at ht
    · rename_i ms h; exact ⟨ms, h⟩
    · cases ht
  cases fuel with
  | zero => simp [DataW.trod] at h
  | succ n =>
    unfold DataW.trod at h
    rw [hms] at h
    match cs, h with
    | [.nilIface], _ => exact ⟨_, rfl, .inl rfl⟩
    | [.iface te pe], _ => exact ⟨_, rfl, .inr ⟨te, pe, rfl⟩⟩
theorem var_ifc {W : World} {nm : String} {g : Nat} {d : DataW Unit} (hg : Tryz.prog.globalNamed nm = some g) (ht : (Tryz.prog.globals[g]?).map (·.type) = some 125) (h : laidMet Tryz.prog [(nm, d)] W) : ∃ v, W.var? Tryz.prog nm = some #[v] ∧ (v = .nilIface ∨ ∃ te pe, v = .iface te pe) := by
  obtain ⟨ps, ⟨g', t', cs, fuel, p, q, hg', ht', hvar, hd, _, _⟩, _⟩ := h
  obtain rfl := Option.some.inj (hg.symm.trans hg')
  obtain rfl := Option.some.inj (ht.symm.trans ht')
  obtain ⟨v, hv, h2⟩ := trod_ifc (by kernel_rfl) hd
  refine ⟨v, ?_, h2⟩
  rw [hvar]
  congr 1
  exact Array.toList_inj.1 hv
theorem var_at {w : World} {nm : String} {g : Nat} {v : Value} {t : TypeId} (hg : Tryz.prog.globalNamed nm = some g) (h : w.heap[g]? = some (.cells #[v] t)) : w.var? Tryz.prog nm = some #[v] := by
  unfold World.var?
  rw [hg, Option.bind_some, h]
theorem max_int {w : World} (h : w.ShapedOpen Tryz.prog) : ∃ m : Int, w.var? Tryz.prog "internal/bytealg.MaxLen" = some #[.int .i64 m] := by
  obtain ⟨cs, hh, hs, _⟩ := h.1 1 #[.int .i64 0] 3 (of_decide_eq_true (by kernel_rfl)) (by kernel_rfl)
  obtain ⟨m, hm⟩ : ∃ m, w.cell? ⟨1, 0, none⟩ = some (.int .i64 m) := cell_of_shapedOpen_int (g := 1) (t := 3) (zero := #[.int .i64 0]) (k := .i64) h (of_decide_eq_true (by kernel_rfl)) (by kernel_rfl) rfl (by kernel_rfl) (by kernel_rfl) (by kernel_rfl)
  refine ⟨m, var_at (t := 3) gn1 ?_⟩
  rw [hh]
  have h1 : 0 < cs.size := by rw [hs]; decide
  have hc : cs[0] = .int .i64 m := by simpa [World.cell?, hh, h1] using hm
  congr 2
  apply Array.ext
  · rw [hs]; rfl
  · intro i h2 h3
    have : i = 0 := by simp at h3; exact h3
    subst this
    exact hc
theorem tab_of {W : World} (h : laidMetH Tryz.prog Rows.reportJoinsRow.laid W) : Lib.TabIs Tryz.prog W "internal/strconv.uint64pow10" .u64 Lib.pow10Tab := by
  have h2 := h.filter (fun x => x.1 == "internal/strconv.uint64pow10")
  exact Lib.tabIs_of_head (rest := []) gn0 (by kernel_rfl) (n := 20) (t := 212) (e := 34) (by kernel_rfl) (by kernel_rfl) (by kernel_rfl) (by kernel_rfl) h2
theorem gl_of {W : World} (h : laidMetH Tryz.prog Rows.reportJoinsRow.laid W) (hs : W.ShapedOpen Tryz.prog) : glR.ok W := by
  have h2 : laidMet Tryz.prog [("strconv.ErrSyntax", Rows.laid_strconv_ErrSyntax)] W := h.filter (fun x => x.1 == "strconv.ErrSyntax")
  have h3 : laidMet Tryz.prog [("strconv.ErrRange", Rows.laid_strconv_ErrRange)] W := h.filter (fun x => x.1 == "strconv.ErrRange")
  refine ⟨⟨tab_of h, var_ifc gn2 (by kernel_rfl) h2, var_ifc gn3 (by kernel_rfl) h3, max_int hs⟩, ?_⟩
  obtain ⟨v, e, _⟩ := var_ifc gn3 (by kernel_rfl) h3
  unfold World.var? at e
  rw [gn3, Option.bind_some] at e
  rcases Nat.lt_or_ge 3 W.heap.size with h' | h'
  · exact h'
  · rw [Array.getElem?_eq_none h'] at e; cases e
theorem Rc.of_fits {cs : List Value} (h : Fits1 rcLeaf cs) : ∃ r : Rc, r.ok ∧ cs = r.cells := by
  obtain ⟨h1, h2⟩ := Fits1.app (ks := List.replicate 16 (some .u8)) h
  rw [List.length_replicate] at h1 h2
  obtain ⟨id, e1, hl, hb⟩ := fits_bytes h1
  obtain ⟨ds, e2⟩ : ∃ ds, cs.drop 16 = ds := ⟨_, rfl⟩
  rw [e2] at h2
  have hcs : cs = ints .u8 id ++ ds := by rw [← e1, ← e2, List.take_append_drop]
  match ds, h2 with
  | [.int q1 p, .bool o, .int q2 c, .int q3 b, .int q4 a, .int q5 e], h2 =>
    obtain ⟨⟨rfl, w1⟩, _, ⟨rfl, w2⟩, ⟨rfl, w3⟩, ⟨rfl, w4⟩, ⟨rfl, w5⟩, _⟩ := h2
    exact ⟨⟨id, p, o, c, b, a, e⟩, ⟨hl, hb, wf_u8 w1, wf_u8 w2, wf_u64 w3, wf_u64 w4, wf_u64 w5⟩, hcs⟩
section
variable {w : World} {base : Nat} {sp : Nat → Bool} {held : Bool} {H : Type} {enc : TypeId × Value → H}
theorem open_recs {a : Option Addr} {len cap : Nat} {x : DataW H} {p : List MemPlace} (h : DataW.Trod enc Tryz.prog w base sp held 33 (.slice a len cap) x p) : ∃ rs : List Rc, rs.length = len ∧ ROk rs ∧ Rd w 22 (.slice a len cap) len (vcs rcV rs) := by
  obtain ⟨xss, h1, h2, h3⟩ := open_flats (d := 5) (ks := rcLeaf) un33 (by kernel_rfl) (by kernel_rfl) h
  have : ∃ rs : List Rc, xss = rs.map Rc.cells ∧ ROk rs := by
    clear h1 h3
    induction xss with
    | nil => exact ⟨[], rfl, fun x hx => nomatch hx⟩
    | cons ys xss ih =>
      obtain ⟨rs, rfl, hrs⟩ := ih (fun zs hz => h2 zs (by simp [hz]))
      obtain ⟨r, hr, rfl⟩ := Rc.of_fits (h2 ys (by simp)).1
      exact ⟨r :: rs, rfl, fun z hz => by
        rcases List.mem_cons.1 hz with rfl | hz
        · exact hr
        · exact hrs z hz⟩
  obtain ⟨rs, rfl, hrs⟩ := this
  refine ⟨rs, by simpa using h1, hrs, ?_⟩
  have e1 : (rs.map Rc.cells).flatten = vcs rcV rs := by
    clear h1 h2 h3 hrs
    induction rs with
    | nil => rfl
    | cons y ys ih => rw [List.map_cons, List.flatten_cons, ih, vcs_cons]; simp [rcV, Value.cells]
  rwa [e1] at h3
end
end Go.Proofs.YtbgimajbehodnaaGreatDoor
