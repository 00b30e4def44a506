/- A log has the records that came last, of each id the last one: the plain law. -/
import Derived.Test.YtpjgmiemamcdhaaLogS
namespace Go.Proofs.Ytpjgmiemamcdhaa
open Go Go.RowKit

def logF (l : List Rc) : List Rc := l.foldl appF []
theorem logF_snoc (l : List Rc) (r : Rc) : logF (l ++ [r]) = appF (logF l) r := by simp [logF]
def keptF (l : List Rc) : List Rc := l.filter mayB
theorem keptF_snoc (l : List Rc) (r : Rc) : keptF (l ++ [r]) = if mayB r then keptF l ++ [r] else keptF l := by
  unfold keptF; rw [List.filter_append]
  cases h : mayB r <;> simp [h]
theorem keptF_le (l : List Rc) : (keptF l).length ≤ l.length := List.length_filter_le _ _
def stepW (W : List Rc) (k : Rc) : List Rc := if k.id ∈ idsOf W then W else W ++ [k]
def wantF (ks : List Rc) : List Rc := ks.foldl stepW []
theorem wantF_snoc (ks : List Rc) (k : Rc) : wantF (ks ++ [k]) = stepW (wantF ks) k := by simp [wantF]
theorem wantF_le : ∀ ks : List Rc, (wantF ks).length ≤ ks.length := by
  refine snoc_ind (by simp [wantF]) (fun ks k ih => ?_)
  rw [wantF_snoc]; unfold stepW; split <;> simp <;> omega
theorem logF_len : ∀ l : List Rc, (logF l).length ≤ l.length := by
  refine snoc_ind (by simp [logF]) (fun l r ih => ?_)
  rw [logF_snoc]
  unfold appF
  split
  · have h1 := putF_len (most := 4096) (xs := (logF l).filter fun x => !pId r x) (x := r)
    have h2 := List.length_filter_le (fun x => !pId r x) (logF l)
    simp; omega
  · simp; omega
theorem appF_ok {xs : List Rc} {r : Rc} (h : ROk xs) (hr : r.ok) : ROk (appF xs r) := by
  unfold appF putF
  have h2 : ROk ((xs.filter fun x => !pId r x) ++ [r]) := by
    intro x hx
    rcases List.mem_append.1 hx with hx | hx
    · exact h x (List.mem_filter.1 hx).1
    · rw [List.mem_singleton.1 hx]; exact hr
  split
  · split
    · exact h2
    · exact fun x hx => h2 x (List.mem_of_mem_drop hx)
  · exact h
theorem appF_le (xs : List Rc) (r : Rc) : (appF xs r).length ≤ xs.length + 1 := by
  unfold appF
  split
  · have h1 := putF_len (most := 4096) (xs := xs.filter fun x => !pId r x) (x := r)
    have h2 := List.length_filter_le (fun x => !pId r x) xs
    omega
  · omega
theorem appF_may {xs : List Rc} {r : Rc} (h : ∀ x ∈ xs, mayB x = true) : ∀ x ∈ appF xs r, mayB x = true := by
  unfold appF putF
  split
  · rename_i hm
    have h2 : ∀ x ∈ (xs.filter fun x => !pId r x) ++ [r], mayB x = true := by
      intro x hx
      rcases List.mem_append.1 hx with hx | hx
      · exact h x (List.mem_filter.1 hx).1
      · rw [List.mem_singleton.1 hx]; exact hm
    split
    · exact h2
    · exact fun x hx => h2 x (List.mem_of_mem_drop hx)
  · exact h
theorem logF_ok : ∀ l : List Rc, ROk l → ROk (logF l) := by
  refine snoc_ind (fun _ x hx => by simp [logF] at hx) (fun l r ih h => ?_)
  rw [logF_snoc]
  exact appF_ok (ih fun x hx => h x (by simp [hx])) (h r (by simp))
theorem logF_may : ∀ l : List Rc, ∀ x ∈ logF l, mayB x = true := by
  refine snoc_ind (fun x hx => by simp [logF] at hx) (fun l r ih => ?_)
  rw [logF_snoc]
  exact appF_may ih

/-- Of each id the first one. -/
def dd : List Rc → List Rc
  | [] => []
  | k :: ks => k :: (dd ks).filter (fun x => !pId k x)
theorem logF_dd : ∀ l : List Rc, l.length ≤ 4000 → (logF l).reverse = dd (keptF l).reverse := by
  refine snoc_ind (fun _ => rfl) (fun l r ih h => ?_)
  rw [List.length_append, List.length_singleton] at h
  rw [logF_snoc, keptF_snoc]
  unfold appF
  cases hm : mayB r with
  | false => exact ih (by omega)
  | true =>
    have h1 := logF_len l
    have h2 := List.length_filter_le (fun x => !pId r x) (logF l)
    simp only [if_true]
    unfold putF
    rw [if_pos (by omega), List.reverse_append, List.reverse_append]
    show r :: ((logF l).filter _).reverse = r :: (dd (keptF l).reverse).filter _
    rw [← ih (by omega), List.filter_reverse]
theorem mem_ids {xs : List Rc} {i : List Int} : i ∈ idsOf xs ↔ ∃ x ∈ xs, x.id = i := by simp [idsOf]
theorem pId_iff {r x : Rc} : pId r x = true ↔ x.id = r.id := by simp [pId]
theorem dd_snoc (k : Rc) : ∀ ks : List Rc, dd (ks ++ [k]) = stepW (dd ks) k
  | [] => rfl
  | a :: ks => by
    show a :: (dd (ks ++ [k])).filter (fun x => !pId a x) = stepW (a :: (dd ks).filter (fun x => !pId a x)) k
    rw [dd_snoc k ks]
    unfold stepW
    by_cases hk : k.id ∈ idsOf (dd ks)
    · rw [if_pos hk, if_pos]
      by_cases ha : k.id = a.id
      · exact mem_ids.2 ⟨a, by simp, ha.symm⟩
      · obtain ⟨x, hx, hxe⟩ := mem_ids.1 hk
        refine mem_ids.2 ⟨x, List.mem_cons.2 (.inr (List.mem_filter.2 ⟨hx, ?_⟩)), hxe⟩
        cases hp : pId a x with
        | false => rfl
        | true => exact absurd (hxe.symm.trans (pId_iff.1 hp)) ha
    · rw [if_neg hk, List.filter_append]
      by_cases ha : k.id = a.id
      · rw [if_pos (mem_ids.2 ⟨a, by simp, ha.symm⟩)]
        have : pId a k = true := pId_iff.2 ha
        simp [this]
      · rw [if_neg]
        · have : pId a k = false := by
            cases hp : pId a k with
            | false => rfl
            | true => exact absurd (pId_iff.1 hp) ha
          simp [this]
        · intro h
          obtain ⟨x, hx, hxe⟩ := mem_ids.1 h
          rcases List.mem_cons.1 hx with rfl | hx
          · exact ha hxe.symm
          · exact hk (mem_ids.2 ⟨x, (List.mem_filter.1 hx).1, hxe⟩)
theorem wantF_dd : ∀ ks : List Rc, wantF ks = dd ks := by
  refine snoc_ind rfl (fun ks k ih => ?_)
  rw [wantF_snoc, dd_snoc, ih]
theorem want_log {l : List Rc} (h : l.length ≤ 4000) : wantF (keptF l).reverse = (logF l).reverse := by rw [wantF_dd, logF_dd l h]
theorem dd_nodup : ∀ ks : List Rc, (idsOf (dd ks)).Nodup
  | [] => List.Pairwise.nil
  | a :: ks => by
    show (a.id :: ((dd ks).filter (fun x => !pId a x)).map Rc.id).Nodup
    refine List.nodup_cons.2 ⟨fun h => ?_, (dd_nodup ks).sublist (List.Sublist.map _ List.filter_sublist)⟩
    obtain ⟨x, hx, he⟩ := List.mem_map.1 h
    have := (List.mem_filter.1 hx).2
    rw [pId_iff.2 he] at this
    cases this
theorem logF_nodup {l : List Rc} (h : l.length ≤ 4000) : (idsOf (logF l)).Nodup := by
  have h1 := dd_nodup (keptF l).reverse
  rw [← logF_dd l h] at h1
  unfold idsOf at h1 ⊢
  rw [List.map_reverse] at h1
  exact (List.pairwise_reverse.1 h1).imp (fun h e => h e.symm)
/-- What was appended is loaded as it was. -/
theorem allB_load {xs : List Rc} (h : ROk xs) (hm : ∀ x ∈ xs, mayB x = true) (hn : (idsOf xs).Nodup) : recN (allB xs) = xs.length ∧ recsOf (allB xs) xs.length = xs ∧ okL (allB xs) = true := by
  have h1 : recN (allB xs) = xs.length := by
    have := allB_recN (rs := xs) (fun r hr => ⟨h r hr, hm r hr⟩) (tl := []) (by simp)
    rwa [List.append_nil] at this
  have h2 : recsOf (allB xs) xs.length = xs := by
    apply List.ext_getElem
    · rw [recsOf_len]
    · intro i hi1 hi2
      have := allB_at h [] hi2
      rw [List.append_nil] at this
      simp [recsOf, this]
  refine ⟨h1, h2, okL_yes (by rw [h1, allB_len h]) (by rw [h1, h2]; exact hn)⟩
end Go.Proofs.Ytpjgmiemamcdhaa
