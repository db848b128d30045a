/- Calls in memory: Open, the numbers of those that are open, in order. -/
import Derived.Test.YtllfehahjkbhiaaCalAns
import Derived.Test.YtllfehahjkbhiaaSortOwn
import Derived.Maps.RangeWalk
import Derived.WalkSpells
namespace Go.Proofs.Ytllfehahjkbhiaa
open Go.RowKit Go.Lib Go.MapKept
set_option linter.unusedSimpArgs false
set_option linter.unusedVariables false
theorem info_int : (Try.prog.info? 3).map (fun i => (i.zero, i.size, i.bytes)) = some (some (.int .i64 0), 1, 8) := by kernel_rfl
theorem calOpen_nil (w : World) : Calls Try.prog 23 #[.pointer none] w fun e w' => e = .returned (.slice none 0 0) ∧ w = w' := by
  go_enter Try.func23, Try.ntmps23
  go_wp2_with fail
  go_ret
  exact ⟨rfl, rfl⟩
def okey (L : List Kc) (k : Int) : Option Int := if (kfind k L).any (fun x => x.what == 1) then some k else none
theorem okey_eq {L : List Kc} {k b : Int} (h : okey L k = some b) : b = k := by
  unfold okey at h
  split at h
  · exact (Option.some.inj h).symm
  · cases h
theorem okey_ids {L : List Kc} (hL : L.Pairwise fun a b => a.id < b.id) : (L.map Kc.id).filterMap (okey L) = (opens L).map Kc.id := by
  have gen : ∀ M : List Kc, (∀ k ∈ M, k ∈ L) → (M.map Kc.id).filterMap (okey L) = (opens M).map Kc.id := by
    intro M
    induction M with
    | nil => intro _; rfl
    | cons k r ih =>
      intro h
      have h1 := kfind_of hL (h k (List.mem_cons_self ..)) rfl
      have ih := ih fun x hx => h x (List.mem_cons_of_mem _ hx)
      unfold opens at *
      rw [List.map_cons, List.filterMap_cons, ih]
      unfold okey
      rw [h1]
      by_cases hw : k.what = 1
      · rw [if_pos (by simpa using hw), List.filter_cons_of_pos (by simpa using hw)]; rfl
      · rw [if_neg (by simpa using hw), List.filter_cons_of_neg (by simpa using hw)]
  exact gen L fun _ h => h
theorem opens_lt {L : List Kc} (hL : L.Pairwise fun a b => a.id < b.id) : ((opens L).map Kc.id).Pairwise (· < ·) := by
  rw [List.pairwise_map]
  exact List.Pairwise.filter _ hL
theorem cell_one_new2 (w : World) (v : Value) (E : TypeId) : ∀ (j : Nat) (u : Value), [v][j]? = some u → (w.alloc (.cells #[v] E)).cell? ((⟨w.heap.size, 0, none⟩ : Addr).add j) = some u := by
  intro j u hu
  cases j with
  | zero => simp at hu; subst hu; exact cell_at (heap_alloc_at rfl) rfl
  | succ j => simp at hu
theorem ent_of {P : List (Kc × Nat)} {es : Array MapEntry} {ck : Nat} (hM : MapOf es ck (pent P)) {e : MapEntry} (he : e ∈ es.toList) : ∃ p ∈ P, e.key = .int .i64 p.1.id ∧ e.val = .pointer (some ⟨p.2, 0, none⟩) := by
  have h1 : (e.key, e.val) ∈ es.toList.map (fun e => (e.key, e.val)) := List.mem_map.2 ⟨e, he, rfl⟩
  rw [hM.eq] at h1
  obtain ⟨q, hq, e1⟩ := List.mem_map.1 h1
  obtain ⟨p, hp, rfl⟩ := List.mem_map.1 hq
  simp at e1
  exact ⟨p, hp, e1.1.symm, e1.2.symm⟩
theorem pfind_of {P : List (Kc × Nat)} (hn : ((P.map Prod.fst).map Kc.id).Nodup) {p : Kc × Nat} (hp : p ∈ P) : pfind p.1.id P = some p := by
  cases h : pfind p.1.id P with
  | none =>
    unfold pfind at h
    have := List.find?_eq_none.1 h p hp
    simp at this
  | some q =>
    obtain ⟨h1, h2⟩ := pfind_some h
    obtain ⟨i, hi⟩ := List.getElem?_of_mem h1
    obtain ⟨j, hj⟩ := List.getElem?_of_mem hp
    have a1 : ((P.map Prod.fst).map Kc.id)[i]? = some p.1.id := by simp [hi, h2]
    have a2 : ((P.map Prod.fst).map Kc.id)[j]? = some p.1.id := by simp [hj]
    have hij := (List.getElem?_inj (List.getElem?_eq_some_iff.1 a1).1 hn).1 (a1.trans a2.symm)
    subst hij
    rw [hi] at hj; rw [Option.some.inj hj]
theorem map_keys {ks : List Int} {done : List MapEntry} (h : done.map (·.key) = ks.map (Value.int .i64)) : done.map (fun e => intOf e.key) = ks := by
  have := congrArg (List.map intOf) h
  simpa [List.map_map, Function.comp_def, intOf] using this
set_option maxHeartbeats 2000000 in
set_option maxRecDepth 100000 in
theorem calOpen_at {w : World} {c : Nat} {F : List Nat} {C : Cs} (h : CalAt w c F C) :
    Calls Try.prog 23 #[.pointer (some ⟨c, 0, none⟩)] w fun e w' => ∃ v, e = .returned v ∧ w'.ownsRow w.heap.size 3 1 v ((opens C.L).map Kc.id).length (((opens C.L).map Kc.id).map (Value.int .i64)) ∧ Only [] w w' := by
  have hok := h.ok
  obtain ⟨bm, t, Ft, P, es, ck, hc, hb, hM, hP, hk, hn, hT, rfl, h1, h2, h3⟩ := h.obj
  have c2 : w.cell? ⟨c, 2, none⟩ = some (.map (some bm)) := cell_at hc rfl
  have hrg := run_range_map (P := Try.prog) w 61 _ _ bm es ck Try.underlying61 hb
  have hids : (pent P).map Prod.fst = C.L.map Kc.id := by rw [← hP]; unfold pent; rw [List.map_map, List.map_map]; rfl
  have hnd : ((P.map Prod.fst).map Kc.id).Nodup := by rw [hP]; exact ids_nodup hok.sorted
  have hfew := hok.few
  obtain ⟨i3, hi3, hz3, hs3, hb3⟩ := info_parts info_int
  have HOK := Lib.hid hok
  have HB := Lib.hid hb
  have HM := Lib.hid hM
  have HK := Lib.hid hk
  have HP := Lib.hid hP
  have HND := Lib.hid hnd
  have HIDS := Lib.hid hids
  clear h hc hb hM hP hk hn hT h1 h2 h3 hok hnd hids
  go_enter Try.func23, Try.ntmps23
  go_wp2_with fail
  go_loopg [3] (leftOf es #[]).size (fun gk v wr => ∃ (seen : Array Nat) (done : List MapEntry) (ks zs : List Int), gk = (leftOf es seen).size ∧ Visit es seen done ∧ done.map (·.key) = ks.map (Value.int .i64) ∧ zs = ks.filterMap (okey C.L) ∧ zs.length ≤ 64 ∧
    wr.ownsRow w.heap.size 3 1 v zs.length (zs.map (Value.int .i64)) ∧ wr.heap[w.heap.size]? = some (.mapIter (some bm) ck seen ck) ∧ Only [] w wr ∧ v.ownBlock ≠ some w.heap.size)
  case atStart =>
    exact ⟨#[], [], [], [], rfl, Visit.start es, rfl, rfl, by simp, World.ownsRow_nil _ _ _ _, heap_alloc_new w _, (Only.refl _ _).alloc _, by simp [Value.ownBlock]⟩
  case round =>
    obtain ⟨seen, done, ks, zs, rfl, hV, hks, hzs, hzl, hown, hit, hO, hne⟩ := hrel
    have hb2 := hO.keep HB.out (by simp)
    rcases run_next_at (P := Try.prog) wr 0 w.heap.size bm ck ck seen es ck hit hb2 HM.out.st.1 (Nat.le_refl _) with ⟨h0, hnx⟩ | ⟨e, he, w1, hw1, hnx⟩
    · have hp := hV.over HM.out.st h0
      have hperm : zs.Perm ((opens C.L).map Kc.id) := by
        rw [hzs, ← okey_ids HOK.out.sorted, ← HIDS.out]
        refine List.Perm.filterMap _ ?_
        have h1 := (hp.map (·.key))
        rw [hks, HM.out.keys] at h1
        have h2 := h1.map intOf
        simpa [List.map_map, Function.comp_def, intOf] using h2
      have hms := sorted_keys hperm (opens_lt HOK.out.sorted)
      have hzn := hperm.length_eq
      have hz62 : zs.length < 4611686018427387904 := by omega
      have HMS := Lib.hid hms
      have HZN := Lib.hid hzn
      clear hms hzn hks hzs hp hV hit hrg hb2 h0 c2 hperm
      go_wp2_with (go_at_call 33; refine (sort_own hown hz62).mono ?_; rintro e w' ⟨rfl, hs, hg⟩)
      go_ret
      refine ⟨_, rfl, ?_, hO.grown hg (fun k hk => .inr (hown.lt k hk).1)⟩
      rw [HMS.out, HZN.out] at hs
      exact hs
    · obtain ⟨he1, he2⟩ := mem_left he
      obtain ⟨p, hp, hkey, hval⟩ := ent_of HM.out he1
      rw [hkey] at hnx
      have hroom := (hV.push he).room
      have hgl := left_shrinks es seen e he
      have hO1 : Only [] w w1 := by rcases hw1 with rfl | rfl; exact hO; exact hO.drew
      have hit1 : w1.heap[w.heap.size]? = some (.mapIter (some bm) ck seen ck) := by rcases hw1 with rfl | rfl <;> exact hit
      have hown1 : w1.ownsRow w.heap.size 3 1 u3 zs.length (zs.map (Value.int .i64)) := by rcases hw1 with rfl | rfl; exact hown; exact hown.drew
      have hb3' : w1.heap[bm]? = some (.map es ck) := by rcases hw1 with rfl | rfl <;> exact hb2
      have hbne : bm ≠ w.heap.size := Nat.ne_of_lt (lt_of_heap HB.out)
      have hen := run_entry_at (P := Try.prog) (ChangeMaps.setBlock w1 w.heap.size (.mapIter (some bm) ck (seen.push e.born) ck)) w.heap.size bm ck seen es ck e (setB_same hit1) ((setB_other hbne).trans hb3') he1 HM.out.st.2.1
      rw [hkey, hval] at hen
      have hOW : Only [] w (ChangeMaps.setBlock w1 w.heap.size (.mapIter (some bm) ck (seen.push e.born) ck)) := hO1.setB (.inr (Nat.le_refl _)) _
      have hownW : (ChangeMaps.setBlock w1 w.heap.size (.mapIter (some bm) ck (seen.push e.born) ck)).ownsRow w.heap.size 3 1 u3 zs.length (zs.map (Value.int .i64)) :=
        hown1.kept (row := some w.heap.size) ⟨rfl, rfl, rfl, by simp, fun k _ hk => setB_other (fun e => hk (by rw [e]))⟩ (.inr hne)
      have hitW := setB_same (o := .mapIter (some bm) ck (seen.push e.born) ck) hit1
      generalize hW : ChangeMaps.setBlock w1 w.heap.size (.mapIter (some bm) ck (seen.push e.born) ck) = W at *
      have hszW : w.heap.size ≤ W.heap.size := hOW.size
      have hpc := hOW.keep (HK.out p hp) (by simp)
      have d4 : W.cell? ⟨p.2, 4, none⟩ = some (.int .i64 p.1.what) := cell_at hpc rfl
      have hkf : kfind p.1.id C.L = some p.1 := by rw [← HP.out, pfind_fst, pfind_of HND.out hp]; rfl
      have hks2 : (done ++ [e]).map (·.key) = (ks ++ [p.1.id]).map (Value.int .i64) := by simp [hks, hkey]
      have hlen2 : ((ks ++ [p.1.id]).filterMap (okey C.L)).length ≤ 64 := by
        have hv := hV.push he
        have hsub : ((ks ++ [p.1.id]).filterMap (okey C.L)).length ≤ ((opens C.L).map Kc.id).length := by
          rw [← okey_ids HOK.out.sorted]
          have hnd2 : (ks ++ [p.1.id]).Nodup := by
            rw [← map_keys hks2]
            have hd : (done ++ [e]).Nodup := List.Pairwise.imp (fun {a b} hne e => hne (by rw [e])) (List.pairwise_map.1 hv.nodup)
            rw [List.Nodup, List.pairwise_map]
            refine hd.imp_of_mem (fun {a b} ha hb hne e3 => hne ?_)
            obtain ⟨pa, hpa, ka, va⟩ := ent_of HM.out (hv.sub a ha)
            obtain ⟨pb, hpb, kb, vb⟩ := ent_of HM.out (hv.sub b hb)
            rw [ka, kb] at e3
            simp only [intOf] at e3
            have hst := HM.out.st.2.2
            obtain ⟨i, hi⟩ := List.getElem?_of_mem (hv.sub a ha)
            obtain ⟨j, hj⟩ := List.getElem?_of_mem (hv.sub b hb)
            have a1 : ((pent P).map Prod.fst)[i]? = some pa.1.id := by
              have := HM.out.at i
              rw [← Array.getElem?_toList, hi] at this
              cases hq : (pent P)[i]? with
              | none => rw [hq] at this; simp at this
              | some q => rw [hq] at this; simp [ka] at this; simp [hq, this.1]
            have a2 : ((pent P).map Prod.fst)[j]? = some pa.1.id := by
              have := HM.out.at j
              rw [← Array.getElem?_toList, hj] at this
              cases hq : (pent P)[j]? with
              | none => rw [hq] at this; simp at this
              | some q => rw [hq] at this; simp [kb] at this; simp [hq, this.1, e3]
            have hij := (List.getElem?_inj (List.getElem?_eq_some_iff.1 a1).1 HM.out.nodup).1 (a1.trans a2.symm)
            subst hij
            rw [hi] at hj; exact Option.some.inj hj
          have hsubset : ∀ k ∈ ks ++ [p.1.id], k ∈ C.L.map Kc.id := by
            intro k hk'
            rw [← map_keys hks2] at hk'
            obtain ⟨a, ha, rfl⟩ := List.mem_map.1 hk'
            obtain ⟨pa, hpa, ka, va⟩ := ent_of HM.out (hv.sub a ha)
            rw [ka, ← HP.out]
            exact List.mem_map.2 ⟨pa.1, List.mem_map.2 ⟨pa, hpa, rfl⟩, rfl⟩
          refine List.Nodup.length_le_of_subset ?_ ?_
          · refine List.pairwise_filterMap.2 (hnd2.imp (fun {a a'} hne b hb b' hb' => ?_))
            rw [okey_eq hb, okey_eq hb']; exact hne
          · intro k hk'
            obtain ⟨a, ha, e5⟩ := List.mem_filterMap.1 hk'
            exact List.mem_filterMap.2 ⟨a, hsubset a ha, e5⟩
        rw [List.length_map] at hsub; omega
      have HKS := Lib.hid hks2
      have HL2 := Lib.hid hlen2
      have HKF := Lib.hid hkf
      have HZS := Lib.hid hzs
      have HIT := Lib.hid hitW
      have HE := Lib.hid he
      have HV := Lib.hid hV
      have hgl0 := Lib.hid hgl
      have HNE := Lib.hid hne
      have HOW := Lib.hid hOW
      have HSZ := Lib.hid hszW
      by_cases hw : p.1.what = 1
      · have e1 : (p.1.what == 1) = true := by simp [hw]
        have hst : (ks ++ [p.1.id]).filterMap (okey C.L) = zs ++ [p.1.id] := by
          rw [List.filterMap_append, ← hzs]
          simp [okey, hkf, hw]
        have hbound : zs.length + 1 ≤ 64 := by rw [hst] at hlen2; simpa using hlen2
        have HST := Lib.hid hst
        rw [hw] at d4
        clear hkey hval hks hzs hzl hit hit1 hb2 hb3' hrg hw1 hO1 hown1 hO hW hown hroom c2 hitW hbne he2 he he1 hV hgl hne hOW hszW hks2 hlen2 hkf hpc hw hst
        go_wp2_with (at_builtin; go_must (refine wpList_append_own _ rfl _ _ 54 rfl w.heap.size 3 i3 (.int .i64 0) 1 8 Try.underlying54 hi3 hz3 hs3 hb3 rfl (by decide) u3 zs.length _ rfl (hownW.alloc _) ⟨W.heap.size, 0, none⟩ 1 1 [.int .i64 p.1.id] rfl rfl (cell_one_new2 _ _ _) (by simp [Value.oneCell']) (by unfold maxLen; omega) (by omega) (by have := HSZ.out; simp; omega) ?_); intro v' w2 hown2 hgrow2 _)
        go_roundg (leftOf es (seen.push e.born)).size
        case measure => exact hgl0.out
        case rel =>
          have hgr : W.grownBy w2 u3.ownBlock := (World.grownBy_alloc W _ _).andThen hgrow2 (fun j h => .inr h)
          have hit2 : w2.heap[w.heap.size]? = some (.mapIter (some bm) ck (seen.push e.born) ck) := by
            rw [hgr.block _ (lt_of_heap HIT.out) (fun e => HNE.out e.symm)]; exact HIT.out
          refine ⟨_, _, ks ++ [p.1.id], zs ++ [p.1.id], rfl, HV.out.push HE.out, HKS.out, HST.out.symm, by simpa using hbound, ?_, hit2, HOW.out.grown hgr (fun j hj => .inr (hownW.lt j hj).1), ?_⟩
          · simpa using hown2
          · intro hv
            rcases hown2.2 with ⟨rfl, _⟩ | ⟨g, cap, cur, rfl, _, hg, _⟩
            · simp [Value.ownBlock] at hv
            · simp [Value.ownBlock] at hv
              subst hv; rw [hit2] at hg; cases hg
      · have e1 : (p.1.what == 1) = false := by simp [hw]
        have hst : (ks ++ [p.1.id]).filterMap (okey C.L) = zs := by
          rw [List.filterMap_append, ← hzs]
          simp [okey, hkf, hw]
        have HST := Lib.hid hst
        clear hkey hval hks hzs hit hit1 hb2 hb3' hrg hw1 hO1 hown1 hO hW hown hroom c2 hitW hbne he2 he he1 hV hgl hne hOW hszW hks2 hlen2 hkf hpc hw hst
        go_wp2_with fail
        go_roundg (leftOf es (seen.push e.born)).size
        case measure => exact hgl0.out
        case rel => exact ⟨_, _, ks ++ [p.1.id], zs, rfl, HV.out.push HE.out, HKS.out, HST.out.symm, hzl, hownW, HIT.out, HOW.out, HNE.out⟩
end Go.Proofs.Ytllfehahjkbhiaa
