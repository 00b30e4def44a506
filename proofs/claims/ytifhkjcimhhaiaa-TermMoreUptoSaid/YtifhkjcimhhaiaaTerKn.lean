/- The chapter's rows: plain laws. -/
import Derived.Test.YtifhkjcimhhaiaaTerXd
namespace Go.Proofs.Ytifhkjcimhhaiaa
open Go Go.RowKit
theorem can_of {g : List Tm} {m : MpT} (h : ∀ t, inM m t ↔ ClP (GvT (g.map some)) t) (t : Tm) : canB m (some t) = true ↔ t.canP (ClP (inL g)) := by
  have e : ∀ t, GvT (g.map some) t ↔ inL g t := fun t => by unfold GvT inL; simp
  have e2 : ∀ t, inM m t ↔ ClP (inL g) t := fun t => (h t).trans ⟨fun q => cl_mono (fun t q => (e t).1 q) t q, fun q => cl_mono (fun t q => (e t).2 q) t q⟩
  rw [canB_iff]
  exact ⟨can_mono (fun t q => (e2 t).1 q) t, can_mono (fun t q => (e2 t).2 q) t⟩
theorem can_off {g : List Tm} {m : MpT} (h : ∀ t, inM m t ↔ ClP (GvT (g.map some)) t) {t : Tm} (ht : ¬ t.canP (ClP (inL g))) : canB m (some t) = false := by
  rw [Bool.eq_false_iff]
  exact fun q => ht ((can_of h t).1 q)
structure Kf (A B K SK PA H1 S2 UA UB SH H7 PB : Tm) : Prop where
  a1 : atomT 1 = A
  a2 : atomT 2 = B
  a3 : atomT 3 = K
  ok : ∀ t ∈ [A, B, K, SK, PA, H1, S2, UA, UB, SH, H7, PB], t.ok ∧ t.enc.length ≤ 100
  e1 : mkO 4 (some K) (some B) = some SK
  e2 : mkO 2 (some A) (some SK) = some PA
  e3 : hashO 1 [some K] = some H1
  e4 : mkO 4 (some H1) (some B) = some S2
  e5 : pubO (some A) = some UA
  e6 : pubO (some B) = some UB
  e7 : shO (some A) (some UB) = some SH
  e8 : shO (some B) (some UA) = some SH
  e9 : shO (some A) (some B) = none
  e10 : hashO 7 [some B, some A] = some H7
  e11 : mkO 2 (some A) (some B) = some PB
  r1 : ∀ m : MpT, (∀ t, inM m t ↔ ClP (GvT [some PA, some K]) t) → canB m (some A) = true ∧ canB m (some B) = true ∧ canB m (some H7) = true
  r2 : ∀ m : MpT, (∀ t, inM m t ↔ ClP (GvT [some S2, some A]) t) → canB m (some B) = false
  r3 : ∀ m : MpT, (∀ t, inM m t ↔ ClP (GvT [some S2, some K]) t) → canB m (some B) = true
  r4 : ∀ m : MpT, (∀ t, inM m t ↔ ClP (GvT [some UA, some UB, some A]) t) → canB m (some SH) = true ∧ canB m (some B) = false
  p : PB = pairT A B
  s : SK = sealT K B
  kne : ¬ K.enc = encO (some A)
  kd : kdO (some A) = 1
  nu : nuO (some A) = 1
theorem atom_len (n : Int) : (atomT n).enc.length = 9 := by unfold atomT; rw [enc_mk, encs_nil]; rfl
theorem pub_len (t : Tm) : (pubT t).enc.length = 1 + t.enc.length := by unfold pubT; rw [enc_mk, encs_cons, encs_nil, List.length_append, List.append_nil]; rfl
theorem hash_len (n : Int) (l : List Tm) : (hashT n l).enc.length = 10 + (encs l).length := by unfold hashT; rw [enc_mk, List.length_append]; rfl
theorem shT_len (a b : Tm) : (shT a b).enc.length = 1 + (a.enc.length + b.enc.length) := by
  unfold shT
  split
  · rw [enc_mk, encs_cons, encs_cons, encs_nil, List.length_append, List.length_append, List.append_nil]
    have : (hdB 6 0 [b, a].length).length = 1 := rfl
    omega
  · rw [enc_mk, encs_cons, encs_cons, encs_nil, List.length_append, List.length_append, List.append_nil]
    have : (hdB 6 0 [a, b].length).length = 1 := rfl
    omega
theorem encs_len1 (t : Tm) : (encs [t]).length = t.enc.length := by rw [encs_cons, encs_nil, List.append_nil]
theorem encs_len2 (t s : Tm) : (encs [t, s]).length = t.enc.length + s.enc.length := by rw [encs_cons, encs_cons, encs_nil, List.append_nil, List.length_append]
theorem kf_all : Kf aT bbT kT (sealT kT bbT) (pairT aT (sealT kT bbT)) (hashT 1 [kT]) (sealT (hashT 1 [kT]) bbT) (pubT aT) (pubT bbT) (shT aT bbT) (hashT 7 [bbT, aT]) (pairT aT bbT) := by
  have oa : aT.ok := atom_ok (by decide)
  have ob : bbT.ok := atom_ok (by decide)
  have ok : kT.ok := atom_ok (by decide)
  have oh : (hashT 1 [kT]).ok := hash_ok (by decide) (by decide) (by simp [ok])
  have la : aT.enc.length = 9 := atom_len 1
  have lb : bbT.enc.length = 9 := atom_len 2
  have lk : kT.enc.length = 9 := atom_len 3
  have lh : (hashT 1 [kT]).enc.length = 19 := by rw [hash_len, encs_len1, lk]
  refine ⟨rfl, rfl, rfl, ?_, rfl, rfl, rfl, rfl, rfl, rfl, rfl, ?_, rfl, rfl, rfl, fun m h => ?_, fun m h => ?_, fun m h => ?_, fun m h => ?_, rfl, rfl, ?_, rfl, rfl⟩
  · intro t ht
    simp only [List.mem_cons, List.not_mem_nil, or_false] at ht
    rcases ht with rfl | rfl | rfl | rfl | rfl | rfl | rfl | rfl | rfl | rfl | rfl | rfl
    · exact ⟨oa, by omega⟩
    · exact ⟨ob, by omega⟩
    · exact ⟨ok, by omega⟩
    · exact ⟨seal_ok ok ob, by rw [seal_len]; omega⟩
    · exact ⟨pair_ok oa (seal_ok ok ob), by rw [pair_len, seal_len]; omega⟩
    · exact ⟨oh, by omega⟩
    · exact ⟨seal_ok oh ob, by rw [seal_len]; omega⟩
    · exact ⟨pub_ok oa, by rw [pub_len]; omega⟩
    · exact ⟨pub_ok ob, by rw [pub_len]; omega⟩
    · exact ⟨sh_ok oa ob, by rw [shT_len]; omega⟩
    · exact ⟨hash_ok (by decide) (by decide) (by simp [oa, ob]), by rw [hash_len, encs_len2]; omega⟩
    · exact ⟨pair_ok oa ob, by rw [pair_len]; omega⟩
  · show some (shT bbT aT) = _
    rw [sh_comm ob oa]
  · exact ⟨(can_of (g := oneL) h _).2 row1.1, (can_of (g := oneL) h _).2 row1.2.1, (can_of (g := oneL) h _).2 row1.2.2⟩
  · exact can_off (g := twoL) h row2
  · exact (can_of (g := twoM) h _).2 row3
  · exact ⟨(can_of (g := threeL) h _).2 row4.1, can_off (g := threeL) h row4.2⟩
  · intro h
    have := enc_inj ok oa h
    unfold aT kT atomT at this
    injection this with _ h2
    cases h2
theorem kf_some : ∃ A B K SK PA H1 S2 UA UB SH H7 PB, Kf A B K SK PA H1 S2 UA UB SH H7 PB := ⟨_, _, _, _, _, _, _, _, _, _, _, _, kf_all⟩
end Go.Proofs.Ytifhkjcimhhaiaa
