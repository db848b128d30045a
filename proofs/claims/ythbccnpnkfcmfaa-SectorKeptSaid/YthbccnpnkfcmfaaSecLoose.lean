/- Loose: the numbers of loose sectors, in their order. -/
import Derived.Test.YthbccnpnkfcmfaaSecRead
import Derived.Test.YthbccnpnkfcmfaaSortOwn
import Derived.Maps.RangeWalk
import Derived.WalkSpells
namespace Go.Proofs.Ythbccnpnkfcmfaa
open Go.RowKit Go.MapKept
set_option linter.unusedSimpArgs false
set_option linter.unusedVariables false
theorem info3 : (Try.prog.info? 3).map (fun i => (i.zero, i.size, i.bytes)) = some (some (.int .i64 0), 1, 8) := by kernel_rfl
theorem loose_nil (w : World) : Calls Try.prog 14 #[.pointer none] w fun e w' => e = .returned (.slice none 0 0) ∧ w = w' := by
  go_enter Try.func14, Try.ntmps14
  go_wp2_with fail
  go_ret
  exact ⟨rfl, rfl⟩
theorem Dev.loose_lt (D : Dev) : D.loose.Pairwise (· < ·) := List.Pairwise.filter _ List.pairwise_lt_range
theorem Dev.loose_mem (D : Dev) (i : Nat) : i ∈ D.loose ↔ i < D.now.length ∧ ((D.sure[i]?).getD none).isSome = true := by
  unfold Dev.loose; rw [List.mem_filter, List.mem_range]
theorem Dev.loose_len (D : Dev) : D.loose.length ≤ D.now.length := by
  unfold Dev.loose; exact Nat.le_trans (List.length_filter_le _ _) (by simp)
theorem mget_mem {l : List (Int × Value)} {k : Int} : (mget k l).isSome = true ↔ k ∈ l.map Prod.fst := by
  induction l with
  | nil => simp [mget]
  | cons p r ih =>
    unfold mget
    by_cases h : p.1 = k
    · simp [h]
    · rw [if_neg h, ih]; simp; intro e; exact absurd e.symm h
theorem loose_keys {D : Dev} (hok : D.Ok) {l : List (Int × Value)} (hn : (l.map Prod.fst).Nodup) (hl : ∀ k, mget k l = sureAt D.sure k) : (l.map Prod.fst).Perm (D.loose.map fun i : Nat => (i : Int)) := by
  have hn2 : (D.loose.map fun i : Nat => (i : Int)).Nodup := by
    rw [List.Nodup, List.pairwise_map]
    exact (Dev.loose_lt D).imp (fun {a b} h e => by omega)
  refine (List.perm_ext_iff_of_nodup hn hn2).2 fun k => ?_
  rw [← mget_mem, hl]
  simp only [List.mem_map, Dev.loose_mem]
  unfold sureAt
  constructor
  · intro h
    by_cases h0 : 0 ≤ k
    · rw [if_pos h0] at h
      have hs : ((D.sure[k.toNat]?).getD none).isSome = true := by
        cases hh : (D.sure[k.toNat]?).getD none <;> simp_all
      refine ⟨k.toNat, ⟨?_, hs⟩, by omega⟩
      rw [← hok.same]
      rcases Nat.lt_or_ge k.toNat D.sure.length with h' | h'
      · exact h'
      · rw [List.getElem?_eq_none h'] at hs; simp at hs
    · rw [if_neg h0] at h; simp at h
  · rintro ⟨i, ⟨_, h2⟩, rfl⟩
    rw [if_pos (by omega)]
    simpa using h2
set_option maxHeartbeats 1000000 in
theorem loose_at {w : World} {d bn bm : Nat} {D : Dev} (h : DevAt w d bn bm D) :
    Calls Try.prog 14 #[.pointer (some ⟨d, 0, none⟩)] w fun e w' => ∃ v, e = .returned v ∧ w'.ownsRow w.heap.size 3 1 v D.loose.length ((D.loose.map fun i : Nat => (i : Int)).map (Value.int .i64)) ∧ Only [] w w' := by
  have c1 := h.c1
  obtain ⟨es, ck, l, hb, hM, hl⟩ := h.hm
  have hrg := run_range_map (P := Try.prog) w 44 _ _ bm es ck Try.underlying44 hb
  have hperm := loose_keys h.ok hM.nodup hl
  have hsorted : ∀ zs : List Int, zs.Perm (l.map Prod.fst) → (zs.mergeSort fun x y => decide (x ≤ y)) = D.loose.map fun i : Nat => (i : Int) :=
    fun zs hz => sorted_keys (hz.trans hperm) (List.pairwise_map.2 ((Dev.loose_lt D).imp (fun {a b} h => by omega)))
  have hesz : es.size ≤ 4096 := by
    have h1 := hM.len
    have h2 := hperm.length_eq
    have h3 := Dev.loose_len D
    have h4 := h.ok.most
    simp only [List.length_map] at h2; omega
  have hlen : D.loose.length = es.size := by
    have h1 := hM.len
    have h2 := hperm.length_eq
    simp only [List.length_map] at h2; omega
  obtain ⟨i3, hi3, hz3, hs3, hb3⟩ := info_parts info3
  have H := Lib.hid h
  have HB := Lib.hid hb
  have HM := Lib.hid hM
  have HL := Lib.hid hlen
  have HS := Lib.hid hsorted
  clear h hb hM hl hperm hsorted hlen
  go_enter Try.func14, Try.ntmps14
  go_wp2_with fail
  go_loopg [3] (leftOf es #[]).size (fun gk v wr => ∃ (seen : Array Nat) (done : List MapEntry) (zs : List Int), gk = (leftOf es seen).size ∧ Visit es seen done ∧ done.map (·.key) = zs.map (Value.int .i64) ∧ zs.length = done.length ∧
    wr.ownsRow w.heap.size 3 1 v zs.length (zs.map (Value.int .i64)) ∧ wr.heap[w.heap.size]? = some (.mapIter (some bm) ck seen ck) ∧ Only [] w wr ∧ v.ownBlock ≠ some w.heap.size)
  case atStart =>
    exact ⟨#[], [], [], rfl, Visit.start es, rfl, rfl, World.ownsRow_nil _ _ _ _, heap_alloc_new w _, (Only.refl _ _).alloc _, by simp [Value.ownBlock]⟩
  case round =>
    obtain ⟨seen, done, zs, rfl, hV, hk, hzl, hown, hit, hO, hne⟩ := hrel
    have hb2 := hO.keep HB.out (by simp)
    rcases run_next_at (P := Try.prog) wr 0 w.heap.size bm ck ck seen es ck hit hb2 HM.out.st.1 (Nat.le_refl _) with ⟨h0, hnx⟩ | ⟨e, he, w1, hw1, hnx⟩
    · have hp := hV.over HM.out.st h0
      have hperm : zs.Perm (l.map Prod.fst) := by
        have h1 := (hp.map (·.key))
        rw [hk, HM.out.keys] at h1
        have h2 := h1.map intOf
        simpa [List.map_map, Function.comp_def, intOf] using h2
      have hms := HS.out zs hperm
      have hzn : zs.length = D.loose.length := by rw [hzl, HL.out]; simpa using hp.length_eq
      have hz62 : zs.length < 4611686018427387904 := by rw [hzn, HL.out]; omega
      have HMS := Lib.hid hms
      have HZN := Lib.hid hzn
      have HK := Lib.hid hk
      clear hms hzn hk hzl hp hV hit hrg hb2 h0 c1
      go_wp2_with (go_at_call 20; refine (sort_own hown hz62).mono ?_; rintro e w' ⟨rfl, hs, hg⟩)
      go_ret
      refine ⟨_, rfl, ?_, hO.grown hg (fun k hk => .inr (hown.lt k hk).1)⟩
      rw [HMS.out, HZN.out] at hs
      exact hs
    · obtain ⟨he1, he2⟩ := mem_left he
      obtain ⟨k, hkey⟩ := HM.out.keyAt he1
      rw [hkey] at hnx
      have hroom := (hV.push he).room
      have hgl := left_shrinks es seen e he
      have hO1 : Only [] w w1 := by rcases hw1 with rfl | rfl; exact hO; exact hO.drew
      have hit1 : w1.heap[w.heap.size]? = some (.mapIter (some bm) ck seen ck) := by rcases hw1 with rfl | rfl <;> exact hit
      have hown1 : w1.ownsRow w.heap.size 3 1 u3 zs.length (zs.map (Value.int .i64)) := by rcases hw1 with rfl | rfl; exact hown; exact hown.drew
      have hb3' : w1.heap[bm]? = some (.map es ck) := by rcases hw1 with rfl | rfl <;> exact hb2
      have hbne : bm ≠ w.heap.size := Nat.ne_of_lt (lt_of_heap HB.out)
      have hen := run_entry_at (P := Try.prog) (ChangeMaps.setBlock w1 w.heap.size (.mapIter (some bm) ck (seen.push e.born) ck)) w.heap.size bm ck seen es ck e (setB_same hit1) ((setB_other hbne).trans hb3') he1 HM.out.st.2.1
      rw [hkey] at hen
      have hOW : Only [] w (ChangeMaps.setBlock w1 w.heap.size (.mapIter (some bm) ck (seen.push e.born) ck)) := hO1.setB (.inr (Nat.le_refl _)) _
      have hownW : (ChangeMaps.setBlock w1 w.heap.size (.mapIter (some bm) ck (seen.push e.born) ck)).ownsRow w.heap.size 3 1 u3 zs.length (zs.map (Value.int .i64)) :=
        hown1.kept (row := some w.heap.size) ⟨rfl, rfl, rfl, by simp, fun k _ hk => setB_other (fun e => hk (by rw [e]))⟩ (.inr hne)
      have hitW := setB_same (o := .mapIter (some bm) ck (seen.push e.born) ck) hit1
      generalize hW : ChangeMaps.setBlock w1 w.heap.size (.mapIter (some bm) ck (seen.push e.born) ck) = W at *
      have hszW : w.heap.size ≤ W.heap.size := hOW.size
      have HKEY := Lib.hid hkey
      have HK := Lib.hid hk
      have HZ := Lib.hid hzl
      have HIT := Lib.hid hitW
      have hbound : zs.length + 1 ≤ 4096 := by rw [hzl]; simp at hroom; omega
      have HE := Lib.hid he
      have HV := Lib.hid hV
      have hgl0 := Lib.hid hgl
      have HNE := Lib.hid hne
      have HOW := Lib.hid hOW
      have HSZ := Lib.hid hszW
      clear hkey hk hzl hit hit1 hb2 hb3' hrg hw1 hO1 hown1 hO hW hown hroom c1 hitW hbne he2 he he1 hV hgl hne hOW hszW
      go_wp2_with (at_builtin; go_must (refine wpList_append_own _ rfl _ _ 35 rfl w.heap.size 3 i3 (.int .i64 0) 1 8 Try.underlying35 hi3 hz3 hs3 hb3 rfl (by decide) u3 zs.length _ rfl (hownW.alloc _) ⟨W.heap.size, 0, none⟩ 1 1 [.int .i64 k] rfl rfl (cell_one_new _ _ _) (by simp [Value.oneCell']) (by unfold maxLen; omega) (by omega) (by have := HSZ.out; simp; omega) ?_); intro v' w2 hown2 hgrow2 _)
      go_roundg (leftOf es (seen.push e.born)).size
      case measure => exact hgl0.out
      case rel =>
        have hgr : W.grownBy w2 u3.ownBlock := (World.grownBy_alloc W _ _).andThen hgrow2 (fun j h => .inr h)
        have hit2 : w2.heap[w.heap.size]? = some (.mapIter (some bm) ck (seen.push e.born) ck) := by
          rw [hgr.block _ (lt_of_heap HIT.out) (fun e => HNE.out e.symm)]; exact HIT.out
        refine ⟨_, _, zs ++ [k], rfl, HV.out.push HE.out, by simp [HK.out, HKEY.out], by simp [HZ.out], ?_, hit2, HOW.out.grown hgr (fun j hj => .inr (hownW.lt j hj).1), ?_⟩
        · simpa using hown2
        · intro hv
          rcases hown2.2 with ⟨rfl, _⟩ | ⟨g, cap, cur, rfl, _, hg, _⟩
          · simp [Value.ownBlock] at hv
          · simp [Value.ownBlock] at hv
            subst hv; rw [hit2] at hg; cases hg
end Go.Proofs.Ythbccnpnkfcmfaa
