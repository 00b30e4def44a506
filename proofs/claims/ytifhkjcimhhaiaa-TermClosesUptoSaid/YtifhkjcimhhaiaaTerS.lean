/- The keys of a map of terms; All: the walks. -/
import Derived.Test.YtifhkjcimhhaiaaTerO
import Derived.Test.YtifhkjcimhhaiaaLibF
import Derived.Test.YtifhkjcimhhaiaaLibRg
namespace Go.Proofs.Ytifhkjcimhhaiaa
open Go Go.RowKit

def kAt (m : MpT) (j : Nat) : Array Value := #[tmV ((m.map (·.1)).getD j none)]
def ksY (m : MpT) : List (Array Value) := m.map fun p => #[tmV p.1]
theorem ksY_eq (m : MpT) : (List.range m.length).map (kAt m) = ksY m := by
  apply List.ext_getElem
  · simp [ksY]
  · intro i h1 h2
    simp only [List.length_map, List.length_range] at h1
    simp [ksY, kAt, h1]
theorem ks_rest {m : MpT} {done : List Nat} {j : Nat} {p : Option Tm × Unit} (hn : done.Nodup) (hb : ∀ x ∈ done, x < m.length) (hj : j ∉ done) (hp : m[j]? = some p) :
    ∃ rest, (done.map (kAt m) ++ (#[tmV p.1] : Array Value) :: rest).Perm (ksY m) := by
  have hjm := (List.getElem?_eq_some_iff.1 hp).1
  obtain ⟨rest, h⟩ := left_of (n := m.length) (l := done ++ [j]) (List.nodup_append.2 ⟨hn, by simp, fun a ha b hb' e => by simp at hb'; subst hb'; subst e; exact hj ha⟩) (fun x hx => by
    rcases List.mem_append.1 hx with hx | hx
    · exact hb x hx
    · rw [List.mem_singleton.1 hx]; exact hjm)
  refine ⟨rest.map (kAt m), ?_⟩
  have := h.map (kAt m)
  rw [ksY_eq, List.append_assoc, List.map_append] at this
  have e : kAt m j = #[tmV p.1] := by simp [kAt, hp]
  rw [← e]
  simpa using this
set_option maxRecDepth 100000 in
theorem keys1_iter (b1 bm : Nat) (m : MpT) (w : World) (hA : OK w (fpL [roR (blkR b1 59 [.map (some bm)]), roR (mapR tmV unV bm m)]) [roR (blkR b1 59 [.map (some bm)]), roR (mapR tmV unV bm m)] w) :
    IterP Try.prog 54 ([.pointer (some ⟨b1, 0, none⟩)] : List Value).toArray (fpL [roR (blkR b1 59 [.map (some bm)]), roR (mapR tmV unV bm m)]).rd (ksY m) w := by
  have hwr : ∀ r ∈ [roR (blkR b1 59 [.map (some bm)]), roR (mapR tmV unV bm m)], ∀ k, ¬ r.wr k := by
    intro r hr k hk
    simp at hr
    rcases hr with rfl | rfl <;> exact hk
  refine iter_ofP Try.func54 rfl Try.ntmps54 rfl hA hwr ?_
  intro l W g gx T0 hy
  refine WC.seq ?_
  refine WC.region ?_
  refine WL.y (Yl.loadRo on59 rfl (by repeat (first | exact Take1.head | apply Take1.tail)) (by rfl)) rfl ?_
  refine WL.to (To.rangeM un59 rfl (by repeat (first | exact Take1.head | apply Take1.tail))) rfl ?_
  intro r5
  refine WL.nil ?_
  refine WC.block ?_
  refine WC.loop (α := List Nat × (Nat → Prop)) (fun _ => [(0, .func (.yield l) #[] #[]), (5, .pointer (some ⟨r5, 0, none⟩))]) (fun p => [gstP g (p.1.map (kAt m)) p.2, rngR tmV unV bm r5 m p.1, roR (blkR b1 59 [.map (some bm)]), roR (mapR tmV unV bm m)]) (fun p => p.1.Nodup ∧ ∀ j ∈ p.1, j < m.length) (fun p => m.length - p.1.length) ([], T0) ⟨List.nodup_nil, fun _ h => nomatch h⟩ ⟨(by repeat (first | exact Sub.nil | refine Sub.cons rfl ?_)), _, (by repeat (first | exact TakeL.nil | (apply TakeL.cons; · repeat (first | exact Take1.head | apply Take1.tail))))⟩ ?_
  rintro ⟨done, T⟩ ⟨hdn, hdb⟩
  dsimp only at hdn hdb ⊢
  refine WC.seq ?_
  refine WC.region ?_
  refine WL.to (To.nextM (m := m) (done := done) (kv := tmV) (vv := unV) rfl (by repeat (first | exact Take1.head | apply Take1.tail))) rfl ?_
  rintro ⟨o, ho1, ho2⟩
  dsimp only
  refine WL.y (Yl.extract (v := .bool o.isSome) rfl (nx_get o)) rfl ?_
  refine WL.nil ?_
  refine WC.seq ?_
  refine WC.cond rfl (fun g7 => ?_) (fun g7 => ?_)
  · refine WC.skip ?_
    refine WC.block ?_
    refine WC.seq ?_
    obtain ⟨j, rfl⟩ := Option.isSome_iff_exists.1 g7
    obtain ⟨p, hp, hjd⟩ := ho1 j rfl
    have hjm := (List.getElem?_eq_some_iff.1 hp).1
    have hdn' : (done ++ [j]).Nodup := List.nodup_append.2 ⟨hdn, by simp, fun a ha b hb' e => by simp at hb'; subst hb'; subst e; exact hjd ha⟩
    have hdb' : ∀ x ∈ done ++ [j], x < m.length := fun x hx => by
      rcases List.mem_append.1 hx with hx | hx
      · exact hdb x hx
      · rw [List.mem_singleton.1 hx]; exact hjm
    have hle := done_le hdn' hdb'
    rw [List.length_append, List.length_singleton] at hle
    have hkj : kAt m j = #[tmV p.1] := by simp [kAt, hp]
    simp only [Option.toList_some]
    refine WC.region ?_
    refine WL.y (Yl.entryM (m := m) (done := done) (j := j) (kv := tmV) (vv := unV) rfl (by repeat (first | exact Take1.head | apply Take1.tail)) hp) rfl ?_
    refine WL.y (Yl.extract rfl rfl) rfl ?_ -- t9
    refine WL.to (To.alloc (cs := [.string (strOfNums [])]) zr34 rfl) rfl ?_ -- t3
    intro b3
    refine WL.sto (Sto.agg sz34 rfl rfl (by repeat (first | exact Take1.head | apply Take1.tail)) (tm_ones _) rfl (by rfl) (show _ = tmC p.1 from rfl)) (fun _ h => nomatch h) ?_ -- st 1
    refine WL.nil ?_
    refine WC.seq ?_
    refine WC.region ?_
    refine WL.y (Yl.move rfl) rfl ?_ -- t10
    refine WL.y (Yl.loadN ag34 rfl (by repeat (first | exact Take1.head | apply Take1.tail)) (by rfl) (show _ = tmC p.1 from rfl)) rfl ?_ -- t11
    refine WL.yieldP (xs := [.tmp 11]) (i := done.map (kAt m)) hy rfl rfl (ks_rest hdn hdb hjd hp) (by repeat (first | exact Take1.head | apply Take1.tail)) rfl ?_
    intro b12 T'
    refine WL.y (Yl.not rfl) rfl ?_ -- t13
    refine WL.nil ?_
    refine WC.cond rfl (fun g13 => ?_) (fun g13 => ?_)
    · refine WC.ret ?_
      repeat (first | (with_reducible refine peelT ?_) | (with_reducible refine peelB ?_) | (with_reducible refine peelTX ?_) | (with_reducible refine peelBX ?_) | (with_reducible refine peelBN ?_) | (with_reducible refine peelBO rfl ?_))
      have hb : b12 = false := by simpa using g13
      subst hb
      simp only [Bool.false_eq_true, if_false]
      exact itStopP (.inr rfl) Try.results54 (by repeat (first | exact Take1.head | apply Take1.tail))
    · refine WC.skip ?_
      have hb : b12 = true := by simpa using g13
      subst hb
      simp only [if_true]
      exact ⟨rfl, (done ++ [j], T'), ⟨hdn', hdb'⟩, by dsimp only; rw [List.length_append, List.length_singleton]; omega, (by repeat (first | exact Sub.nil | refine Sub.cons rfl ?_)), _, by dsimp only; rw [List.map_append, List.map_singleton, hkj]; exact (by repeat (first | exact TakeL.nil | (apply TakeL.cons; · repeat (first | exact Take1.head | apply Take1.tail))))⟩
  · refine WC.exit ?_
    repeat (first | (with_reducible refine peelT ?_) | (with_reducible refine peelB ?_) | (with_reducible refine peelTX ?_) | (with_reducible refine peelBX ?_) | (with_reducible refine peelBN ?_) | (with_reducible refine peelBO rfl ?_))
    obtain rfl : o = none := by cases o with | none => rfl | some j => cases g7
    have hall := ho2 rfl
    have hpm : (done.map (kAt m)).Perm (ksY m) := by
      rw [← ksY_eq]
      exact List.Perm.map _ ((List.perm_ext_iff_of_nodup hdn List.nodup_range).2 fun x => ⟨fun hx => List.mem_range.2 (hdb x hx), fun hx => hall x (List.mem_range.1 hx)⟩)
    exact itEndP (.inl rfl) Try.results54 (by repeat (first | exact Take1.head | apply Take1.tail)) hpm
theorem keys_any (bm : Nat) (m : MpT) (w : World) (hw : OK w (fpL [roR (mapR tmV unV bm m)]) [roR (mapR tmV unV bm m)] w) :
    Fn Try.prog 42 [.map (some bm)] [roR (mapR tmV unV bm m)] w (fun _ : Nat × (Nat → Prop) => True) (fun y => .func (.func 54) #[] #[.pointer (some ⟨y.1, 0, none⟩)]) (fun y => [itP Try.prog 54 [.pointer (some ⟨y.1, 0, none⟩)] y.2 (ksY m)]) := by
  refine enterF Try.func42 rfl Try.ntmps42 rfl hw ?_
  refine WC.seq ?_
  refine WC.region ?_
  refine WL.to (To.box (cs := [.map (some bm)]) rfl rfl) rfl ?_ -- t1
  intro b1
  refine WL.y (Yl.assign rfl) rfl ?_ -- t2
  refine WL.nil ?_
  refine WC.seq ?_
  refine WC.region ?_
  refine WL.y (Yl.makeFunc (xs := []) (ys := [.tmp 1]) rfl rfl) rfl ?_ -- t3
  refine WL.y (Yl.assign rfl) rfl ?_ -- t2
  refine WL.nil ?_
  refine WC.ret ?_
  repeat (first | (with_reducible refine peelT ?_) | (with_reducible refine peelB ?_) | (with_reducible refine peelTX ?_) | (with_reducible refine peelBX ?_) | (with_reducible refine peelBN ?_) | (with_reducible refine peelBO rfl ?_))
  refine ret1 (.inr rfl) Try.results42 rfl fun w' hh => ⟨(b1, (fpL [roR (blkR b1 59 [.map (some bm)]), roR (mapR tmV unV bm m)]).rd), trivial, rfl, ?_⟩
  have hA : OK w _ ([blkR b1 59 [.map (some bm)], roR (mapR tmV unV bm m)] ++ []) w' := hh.sub (by repeat (first | exact TakeL.nil | (apply TakeL.cons; · repeat (first | exact Take1.head | apply Take1.tail))))
  have hro : OK w _ ([roR (blkR b1 59 [.map (some bm)]), roR (mapR tmV unV bm m)] ++ []) w' := hA.roOne .head
  exact hro.toIterP (keys1_iter b1 bm m w' hro.here) (fun k hk => hk)
theorem all_any (kb mb : Nat) (m : MpT) (w : World) (hw : OK w (fpL (knL kb mb m)) (knL kb mb m) w) :
    Fn Try.prog 23 [.pointer (some ⟨kb, 0, none⟩)] (knL kb mb m) w (fun _ : Nat × (Nat → Prop) => True) (fun y => .func (.func 54) #[] #[.pointer (some ⟨y.1, 0, none⟩)]) (fun y => [itP Try.prog 54 [.pointer (some ⟨y.1, 0, none⟩)] y.2 (ksY m)]) := by
  unfold knL at hw ⊢
  refine enterF Try.func23 rfl Try.ntmps23 rfl hw ?_
  refine WC.seq ?_
  refine WC.region ?_
  refine WL.y (Yl.assign rfl) rfl ?_ -- t2
  refine WL.nil ?_
  refine WC.seq ?_
  refine WC.seq ?_
  refine WC.region ?_
  refine WL.y (Yl.move rfl) rfl ?_ -- t3
  refine WL.y (Yl.nilEq un45 rfl rfl) rfl ?_ -- t4
  refine WL.know (t := 4) (b' := false) rfl (by first | rfl | (simp; done) | (simp; omega)) ?_
  refine WL.nil ?_
  refine WC.condF rfl (by first | rfl | (simp; done) | (simp; omega)) ?_
  refine WC.skip ?_
  refine WC.seq ?_
  refine WC.region ?_
  refine WL.y (Yl.move rfl) rfl ?_ -- t5
  refine WL.y (Yl.nilCheck rfl) rfl ?_ -- t6
  refine WL.y (Yl.field fo78_0 rfl) rfl ?_ -- t7
  refine WL.y (Yl.loadRo on59 rfl (by repeat (first | exact Take1.head | apply Take1.tail)) (by rfl)) rfl ?_
  refine WL.callC (xs := [.tmp 8]) (cap := []) rfl rfl en42 (by repeat (first | exact TakeL.nil | (apply TakeL.cons; · repeat (first | exact Take1.head | apply Take1.tail)))) (fun w hw => keys_any mb m w hw.left.here) rfl ?_ -- t9 maps.Keys[map[hailer/term.Term]struct{},hailer/term.Term,struct{}]
  rintro ⟨b9, own9⟩ -
  refine WL.y (Yl.assign rfl) rfl ?_ -- t2
  refine WL.nil ?_
  refine WC.ret ?_
  repeat (first | (with_reducible refine peelT ?_) | (with_reducible refine peelB ?_) | (with_reducible refine peelTX ?_) | (with_reducible refine peelBX ?_) | (with_reducible refine peelBN ?_) | (with_reducible refine peelBO rfl ?_))
  exact ret1 (.inr rfl) Try.results23 rfl fun w' h => ⟨(b9, own9), trivial, rfl, h.sub (by repeat (first | exact TakeL.nil | (apply TakeL.cons; · repeat (first | exact Take1.head | apply Take1.tail))))⟩
end Go.Proofs.Ytifhkjcimhhaiaa
