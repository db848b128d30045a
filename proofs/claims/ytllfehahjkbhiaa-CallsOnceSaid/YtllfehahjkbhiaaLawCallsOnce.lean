/- CallsOnce: numbers rise one by one; an answer counts once, and for its own call alone. -/
import Derived.Test.YtllfehahjkbhiaaLaw14
import Derived.Test.YtllfehahjkbhiaaDeed14
import Derived.Deep.DeepCutAuto
namespace Go.Proofs.Ytllfehahjkbhiaa
open Go.RowKit Go.Lib
set_option linter.unusedSimpArgs false
set_option linter.unusedVariables false
theorem kset_none {id : Int} {f : Kc → Kc} : ∀ {L : List Kc}, (∀ k ∈ L, k.id ≠ id) → kset id f L = L
  | [], _ => rfl
  | k :: r, h => by
    have ih := kset_none (f := f) (fun x hx => h x (List.mem_cons_of_mem _ hx))
    unfold kset at *
    rw [List.map_cons, if_neg (h k (List.mem_cons_self ..)), ih]
theorem kfind_kset (id : Int) {f : Kc → Kc} (hf : ∀ k, (f k).id = k.id) : ∀ (L : List Kc), kfind id (kset id f L) = (kfind id L).map f
  | [] => rfl
  | k :: r => by
    have ih := kfind_kset id hf r
    unfold kset kfind at *
    rw [List.map_cons]
    by_cases h : k.id = id
    · rw [if_pos h, List.find?_cons_of_pos (by simpa [hf] using h), List.find?_cons_of_pos (by simpa using h)]; rfl
    · rw [if_neg h, List.find?_cons_of_neg (by simpa using h), List.find?_cons_of_neg (by simpa using h)]; exact ih
theorem opens_close {id : Int} {f : Kc → Kc} (hw : ∀ k, (f k).what ≠ 1) : ∀ {L : List Kc} {k : Kc}, (L.Pairwise fun a b => a.id < b.id) → kfind id L = some k → k.what = 1 → (opens (kset id f L)).length + 1 = (opens L).length
  | [], _, _, h, _ => by simp [kfind] at h
  | x :: r, k, hs, h, h1 => by
    rw [List.pairwise_cons] at hs
    by_cases hx : x.id = id
    · have hxk : x = k := by
        unfold kfind at h
        rw [List.find?_cons_of_pos (by simpa using hx)] at h
        exact Option.some.inj h
      subst hxk
      have hr : kset id f r = r := kset_none fun y hy e => by have := hs.1 y hy; omega
      have he : kset id f (x :: r) = f x :: r := by
        show (if x.id = id then f x else x) :: kset id f r = _
        rw [if_pos hx, hr]
      rw [he]
      unfold opens
      rw [List.filter_cons_of_neg (by simpa using hw x), List.filter_cons_of_pos (by simpa using h1)]
      simp
    · have h2 : kfind id r = some k := by
        unfold kfind at h ⊢
        rwa [List.find?_cons_of_neg (by simpa using hx)] at h
      have ih := opens_close hw hs.2 h2 h1
      have he : kset id f (x :: r) = x :: kset id f r := by
        show (if x.id = id then f x else x) :: kset id f r = _
        rw [if_neg hx]
      rw [he]
      unfold opens at *
      by_cases hx1 : x.what = 1
      · rw [List.filter_cons_of_pos (by simpa using hx1), List.filter_cons_of_pos (by simpa using hx1)]; simp; omega
      · rw [List.filter_cons_of_neg (by simpa using hx1), List.filter_cons_of_neg (by simpa using hx1)]; exact ih
theorem ans_true {C : Cs} (h : CsOk C) {m : Mg} (ha : (canswer C m).2 = true) : cstate (canswer C m).1 m.id = (2, m.body) ∧ (opens (canswer C m).1.L).length + 1 = (opens C.L).length ∧ (canswer (canswer C m).1 m).2 = false := by
  cases hf : kfind m.id C.L with
  | none =>
    have : canswer C m = (C, false) := by unfold canswer; rw [hf]
    rw [this] at ha; cases ha
  | some k =>
    by_cases hc : m.kind = 2 ∧ m.to = C.me ∧ k.what = 1 ∧ k.to = m.from_
    · have he : canswer C m = (⟨C.me, C.next, kset m.id (Kc.answered m.body) C.L⟩, true) := by unfold canswer; rw [hf]; dsimp only; rw [if_pos hc]
      rw [he]
      have hk := kfind_kset m.id (f := Kc.answered m.body) (fun _ => rfl) C.L
      rw [hf] at hk
      refine ⟨?_, opens_close (fun k => by simp [Kc.answered]) h.sorted hf hc.2.2.1, ?_⟩
      · unfold cstate; dsimp only; rw [hk]; rfl
      · unfold canswer; dsimp only; rw [hk]; dsimp only [Option.map_some]; rw [if_neg (by simp [Kc.answered])]
    · have : canswer C m = (C, false) := by unfold canswer; rw [hf]; dsimp only; rw [if_neg hc]
      rw [this] at ha; cases ha
theorem ans_false {C : Cs} {m : Mg} (ha : (canswer C m).2 = false) : (canswer C m).1 = C := by
  unfold canswer at *
  cases hf : kfind m.id C.L with
  | none => rfl
  | some k =>
    rw [hf] at ha
    dsimp only at ha ⊢
    split
    · rename_i hc; rw [if_pos hc] at ha; cases ha
    · rfl
theorem call_next (C : Cs) (t : Int) (body : ByteArray) (now : Int) : ((ccall C t body now).2.2 = 0 ∧ (ccall C t body now).2.1 = C.next ∧ (ccall C t body now).1.next = C.next + 1) ∨ ((ccall C t body now).2.2 ≠ 0 ∧ (ccall C t body now).1 = C) := by
  unfold ccall
  split
  · exact .inr ⟨by simp, rfl⟩
  · split
    · exact .inr ⟨by simp, rfl⟩
    · split
      · exact .inr ⟨by simp, rfl⟩
      · exact .inl ⟨rfl, rfl, rfl⟩
theorem deed14_at {w : World} {a : Option Addr} {l : List Deed14} (h : RowsAt Deed14.cells 9 w a l) {i : Nat} {x : Deed14} (hi : l[i]? = some x) :
    ∃ b o, a = some ⟨b, o, none⟩ ∧ w.cell? ⟨b, o + i * 9, none⟩ = some (.int .i64 x.kind) ∧ w.cell? ⟨b, o + i * 9 + 1, none⟩ = some (.int .i64 x.a) ∧ w.cell? ⟨b, o + i * 9 + 2, none⟩ = some (.int .i64 x.b) ∧ w.cell? ⟨b, o + i * 9 + 3, none⟩ = some (.string x.body) ∧
      w.cell? ⟨b, o + i * 9 + 4, none⟩ = some (.int .i64 x.m.kind) ∧ w.cell? ⟨b, o + i * 9 + 5, none⟩ = some (.int .i64 x.m.from_) ∧ w.cell? ⟨b, o + i * 9 + 6, none⟩ = some (.int .i64 x.m.to) ∧ w.cell? ⟨b, o + i * 9 + 7, none⟩ = some (.int .i64 x.m.id) ∧ w.cell? ⟨b, o + i * 9 + 8, none⟩ = some (.string x.m.body) := by
  obtain ⟨b, o, e, hc⟩ := h i x hi
  exact ⟨b, o, e, hc 0 _ rfl, hc 1 _ rfl, hc 2 _ rfl, hc 3 _ rfl, hc 4 _ rfl, hc 5 _ rfl, hc 6 _ rfl, hc 7 _ rfl, hc 8 _ rfl⟩
theorem few14_at (w : World) (a : Option Addr) (n cap : Nat) (hb : n ≤ 9223372036854775807) : Calls Try.prog 7 #[.slice a n cap] w fun e w' => e = .returned (.int .i64 (if 150 < n then 0 else 1)) ∧ w = w' := by
  by_cases h : 150 < n
  · rw [if_pos h]
    have h1 : decide (150 < (n : Int)) = true := decide_eq_true (by omega)
    clear h
    go_enter Try.func7, Try.ntmps7
    go_wp2_with fail
    go_ret
    exact ⟨rfl, rfl⟩
  · rw [if_neg h]
    have h1 : decide (150 < (n : Int)) = false := decide_eq_false (by omega)
    clear h
    go_enter Try.func7, Try.ntmps7
    go_wp2_with fail
    go_ret
    exact ⟨rfl, rfl⟩
set_option maxHeartbeats 4000000 in
set_option maxRecDepth 100000 in
theorem callsOnce_at (w : World) (a : Option Addr) (cap : Nat) (l : List Deed14) (hb : l.length ≤ maxLen) (hl : RowsAt Deed14.cells 9 w a l) (hok : ∀ d ∈ l, d.Ok) :
    Calls Try.prog 5 #[.slice a l.length cap] w fun e w' => e = .returned (.bool true) ∧ Only [] w w' := by
  have HL := Lib.hid hl
  have HDO := Lib.hid hok
  unfold maxLen at hb
  clear hl hok
  by_cases hfew : 150 < l.length
  · go_enter Try.func5, Try.ntmps5
    go_wp2_with fail
    refine (few14_at _ _ _ _ hb).mono ?_
    rw [if_pos hfew]
    rintro e w1 ⟨rfl, rfl⟩
    go_wp2_with fail
    refine (awake_at _).mono ?_
    rintro e w1 ⟨rfl, hO⟩
    have HO := Lib.hid hO
    clear hO
    go_wp2_with fail
    go_ret
    exact ⟨rfl, HO.out⟩
  · go_enter Try.func5, Try.ntmps5
    go_wp2_with fail
    refine (few14_at _ _ _ _ hb).mono ?_
    rw [if_neg hfew]
    rintro e w1 ⟨rfl, rfl⟩
    go_wp2_with fail
    refine (calNew_at 5 100 _).mono ?_
    rintro e w1 ⟨c, F1, rfl, hC1, hO1, hF1⟩
    have HC1 := Lib.hid hC1
    have HO1 := Lib.hid hO1
    have HF1 := Lib.hid hF1
    clear hC1 hO1 hF1
    go_wp2_with fail
    go_loopw [4, 5] (fun x v wr => ∃ (k : Nat) (C : Cs) (F : List Nat), k ≤ l.length ∧ v = .int .i64 k ∧ x = .int .i64 C.next ∧ CalAt wr c F C ∧ Only [] w wr ∧ ∀ b ∈ F, w.heap.size ≤ b) (fun _ v _ => l.length - (intOf v).toNat)
    case atStart => exact ⟨0, _, F1, Nat.zero_le _, rfl, rfl, HC1.out, HO1.out, HF1.out⟩
    case round =>
      obtain ⟨k, C, F, hk, rfl, rfl, hC, hO, hF⟩ := hrel
      have HC := Lib.hid hC
      have HO := Lib.hid hO
      have HF := Lib.hid hF
      clear hC hO hF
      by_cases hlt : k < l.length
      · obtain ⟨y, hy⟩ : ∃ y, l[k]? = some y := ⟨_, List.getElem?_eq_getElem hlt⟩
        obtain ⟨b, o, rfl, c0, c1, c2, c3, c4, c5, c6, c7, c8⟩ := deed14_at (HL.out.keep HO.out) hy
        have hyo := HDO.out y (List.mem_of_getElem? hy)
        have hbs : y.body.size ≤ 9223372036854775807 := hyo.body
        have hlt' : (k : Int) < l.length := by omega
        have hnx := HC.out.ok.next
        clear hy hyo
        have hOA : Only [] wr (wr.alloc (.cells #[.int .i64 y.kind, .int .i64 y.a, .int .i64 y.b, .string y.body, .int .i64 y.m.kind, .int .i64 y.m.from_, .int .i64 y.m.to, .int .i64 y.m.id, .string y.m.body] 34)) := (Only.refl [] wr).alloc _
        have hdz : (wr.alloc (.cells #[.int .i64 y.kind, .int .i64 y.a, .int .i64 y.b, .string y.body, .int .i64 y.m.kind, .int .i64 y.m.from_, .int .i64 y.m.to, .int .i64 y.m.id, .string y.m.body] 34)).heap[wr.heap.size]? = some (.cells #[.int .i64 y.kind, .int .i64 y.a, .int .i64 y.b, .string y.body, .int .i64 y.m.kind, .int .i64 y.m.from_, .int .i64 y.m.to, .int .i64 y.m.id, .string y.m.body] 34 (0, 0)) := heap_alloc_at rfl
        have HCA := Lib.hid (HC.out.only hOA (by simp))
        have HOA := Lib.hid (HO.out.trans hOA)
        have HDZ := Lib.hid hdz
        clear hOA hdz
        have hcn := call_next C y.a y.body 0
        go_wp2_with fail
        refine (calCall_at HCA.out y.a y.body 0 hbs).mono ?_
        unfold CallPost
        rintro e w2 ⟨rfl, F2, hC2, hO2, hF2⟩
        have hlN := lt_of_heap HDZ.out
        have hnF : wr.heap.size ∉ F := fun hm => by have := HC.out.lt _ hm; omega
        have hnF2 : wr.heap.size ∉ F2 := fun hm => by
          rcases hF2 _ hm with h | h
          · exact hnF h
          · omega
        have hd2 := hO2.keep HDZ.out hnF
        have HN2 := Lib.hid hnF2
        have HD2 := Lib.hid hd2
        have HC2 := Lib.hid hC2
        have HF2 := Lib.hid (newer (w' := w2) hF2 HF.out HOA.out.size)
        have HO2 := Lib.hid (HOA.out.call hO2 (fun b hb => .inr (HF.out b hb)))
        clear hC2 hO2 hF2 hnF hnF2 hd2 hlN c0 c1 c2 c3 c4 c5 c6 c7 c8
        generalize hcc : ccall C y.a y.body 0 = r at *
        obtain ⟨C2, id2, e2⟩ := r
        have HCN := Lib.hid hcn
        clear hcn hcc
        dsimp only at HC2 HCN ⊢
        go_upto_if 37 with (fail)
        go_cut [4] (fun x wx => x = .int .i64 C2.next ∧ w2 = wx)
        case first =>
          rcases HCN.out with ⟨h1, h2, h3⟩ | ⟨h1, h2⟩
          · (try dsimp only at h1 h2 h3)
            have t1 : (e2 == 0) = true := by simp [h1]
            have t2 : (id2 != C.next) = false := by simp [h2]
            have H3 := Lib.hid h3
            have hb1 : C.next + 1 ≤ 2147483647 := by rw [← h3]; exact HC2.out.ok.next.2
            clear h1 h2 h3
            go_wp2_with fail
            go_meet
            case rel => exact ⟨by rw [H3.out], rfl⟩
          · (try dsimp only at h1 h2)
            have t1 : (e2 == 0) = false := by simp [h1]
            have H2 := Lib.hid h2
            clear h1 h2
            go_wp2_with fail
            go_meet
            case rel => exact ⟨by rw [H2.out], rfl⟩
        case rest =>
          obtain ⟨rfl, rfl⟩ := hcut
          have d4 : w2.cell? ⟨wr.heap.size, 4, none⟩ = some (.int .i64 y.m.kind) := cell_at HD2.out rfl
          have d5 : w2.cell? ⟨wr.heap.size, 5, none⟩ = some (.int .i64 y.m.from_) := cell_at HD2.out rfl
          have d6 : w2.cell? ⟨wr.heap.size, 6, none⟩ = some (.int .i64 y.m.to) := cell_at HD2.out rfl
          have d7 : w2.cell? ⟨wr.heap.size, 7, none⟩ = some (.int .i64 y.m.id) := cell_at HD2.out rfl
          have d8 : w2.cell? ⟨wr.heap.size, 8, none⟩ = some (.string y.m.body) := cell_at HD2.out rfl
          generalize hN : wr.heap.size = N at *
          clear hN
          go_wp2_with fail
          refine (calOpen_at HC2.out).mono ?_
          rintro e w3 ⟨v3, rfl, hv3, hO3⟩
          obtain ⟨a3, k3, rfl, _, _⟩ := ints_own hv3
          rw [List.length_map]
          have HC3 := Lib.hid (HC2.out.only hO3 (by simp))
          have hd3 := hO3.keep HD2.out (by simp)
          have HD3 := Lib.hid hd3
          have HO3 := Lib.hid (HO2.out.trans hO3)
          clear hv3 hO3 d4 d5 d6 d7 d8
          have d4 : w3.cell? ⟨N, 4, none⟩ = some (.int .i64 y.m.kind) := cell_at hd3 rfl
          have d5 : w3.cell? ⟨N, 5, none⟩ = some (.int .i64 y.m.from_) := cell_at hd3 rfl
          have d6 : w3.cell? ⟨N, 6, none⟩ = some (.int .i64 y.m.to) := cell_at hd3 rfl
          have d7 : w3.cell? ⟨N, 7, none⟩ = some (.int .i64 y.m.id) := cell_at hd3 rfl
          have d8 : w3.cell? ⟨N, 8, none⟩ = some (.string y.m.body) := cell_at hd3 rfl
          clear hd3
          have hle := HC2.out.ok.few
          go_wp2_with fail
          refine (calAnswer_at HC3.out y.m).mono ?_
          rintro e w4 ⟨rfl, hC4, hO4⟩
          have hd4 := hO4.keep HD3.out HN2.out
          have HD4 := Lib.hid hd4
          have HC4 := Lib.hid hC4
          have HO4 := Lib.hid (HO3.out.call hO4 (fun b hb => .inr (HF2.out b hb)))
          clear hC4 hO4 d4 d5 d6 d7 d8
          have d4 : w4.cell? ⟨N, 4, none⟩ = some (.int .i64 y.m.kind) := cell_at hd4 rfl
          have d5 : w4.cell? ⟨N, 5, none⟩ = some (.int .i64 y.m.from_) := cell_at hd4 rfl
          have d6 : w4.cell? ⟨N, 6, none⟩ = some (.int .i64 y.m.to) := cell_at hd4 rfl
          have d7 : w4.cell? ⟨N, 7, none⟩ = some (.int .i64 y.m.id) := cell_at hd4 rfl
          have d8 : w4.cell? ⟨N, 8, none⟩ = some (.string y.m.body) := cell_at hd4 rfl
          clear hd4
          have hnext : (canswer C2 y.m).1.next = C2.next := by
            unfold canswer
            split
            · rfl
            · split <;> rfl
          have HNEXT := Lib.hid hnext
          clear hnext
          cases hans : (canswer C2 y.m).2 with
          | true =>
            obtain ⟨s1, s2, s3⟩ := ans_true HC2.out.ok hans
            generalize canswer C2 y.m = r4 at *
            obtain ⟨C4, q4⟩ := r4
            dsimp only at *
            have HS1 := Lib.hid s1
            have HS2 := Lib.hid s2
            have HS3 := Lib.hid s3
            clear hans s1 s2 s3
            go_wp2_with fail
            refine (calState_at HC4.out _).mono ?_
            rw [HS1.out]
            rintro e w5 ⟨rfl, hO5⟩
            have HC5 := Lib.hid (HC4.out.only hO5 (by simp))
            have hd5 := hO5.keep HD4.out (by simp)
            have HD5 := Lib.hid hd5
            have HO5 := Lib.hid (HO4.out.trans hO5)
            clear hO5 d4 d5 d6 d7 d8
            have d8 : w5.cell? ⟨N, 8, none⟩ = some (.string y.m.body) := cell_at hd5 rfl
            clear hd5
            go_wp2_with fail
            refine (calOpen_at HC5.out).mono ?_
            rintro e w6 ⟨v6, rfl, hv6, hO6⟩
            obtain ⟨a6, k6, rfl, _, _⟩ := ints_own hv6
            rw [List.length_map]
            have HC6 := Lib.hid (HC5.out.only hO6 (by simp))
            have hd6 := hO6.keep HD5.out (by simp)
            have HD6 := Lib.hid hd6
            have HO6 := Lib.hid (HO5.out.trans hO6)
            clear hv6 hO6 d8
            have d4 : w6.cell? ⟨N, 4, none⟩ = some (.int .i64 y.m.kind) := cell_at hd6 rfl
            have d5 : w6.cell? ⟨N, 5, none⟩ = some (.int .i64 y.m.from_) := cell_at hd6 rfl
            have d6 : w6.cell? ⟨N, 6, none⟩ = some (.int .i64 y.m.to) := cell_at hd6 rfl
            have d7 : w6.cell? ⟨N, 7, none⟩ = some (.int .i64 y.m.id) := cell_at hd6 rfl
            have d8 : w6.cell? ⟨N, 8, none⟩ = some (.string y.m.body) := cell_at hd6 rfl
            have hq : (((opens C4.L).length : Int) != ((opens C2.L).length : Int) - 1) = false := by
              rw [← HS2.out]; simp
            clear hd6
            go_wp2_with fail
            refine (calAnswer_at HC6.out y.m).mono ?_
            rw [HS3.out, ans_false HS3.out]
            rintro e w7 ⟨rfl, hC7, hO7⟩
            have HC7 := Lib.hid hC7
            have HO7 := Lib.hid (HO6.out.call hO7 (fun b hb => .inr (HF2.out b hb)))
            clear hC7 hO7
            go_wp2_with fail
            go_roundw
            case rel => exact ⟨k + 1, C4, F2, by omega, by go_num, by rw [HNEXT.out], HC7.out, HO7.out, HF2.out⟩
            case measure => simp [intOf]; omega
          | false =>
            have hs := ans_false hans
            generalize canswer C2 y.m = r4 at *
            obtain ⟨C4, q4⟩ := r4
            dsimp only at *
            subst hs
            clear hans
            go_wp2_with fail
            refine (calOpen_at HC4.out).mono ?_
            rintro e w5 ⟨v5, rfl, hv5, hO5⟩
            obtain ⟨a5, k5, rfl, _, _⟩ := ints_own hv5
            rw [List.length_map]
            have HC5 := Lib.hid (HC4.out.only hO5 (by simp))
            have HO5 := Lib.hid (HO4.out.trans hO5)
            clear hv5 hO5
            go_wp2_with fail
            go_roundw
            case rel => exact ⟨k + 1, C4, F2, by omega, by go_num, rfl, HC5.out, HO5.out, HF2.out⟩
            case measure => simp [intOf]; omega
      · go_wp2_with fail
        refine (calOpen_at HC.out).mono ?_
        rintro e w2 ⟨v2, rfl, hv2, hO2⟩
        obtain ⟨a2, k2, rfl, _, _⟩ := ints_own hv2
        have HO2 := Lib.hid (HO.out.trans hO2)
        have hle := HC.out.ok.few
        rw [List.length_map]
        generalize (opens C.L).length = q at *
        have hle1 : decide ((q : Int) ≤ 64) = true := decide_eq_true (by omega)
        clear hv2 hO2
        go_wp2_with fail
        refine (awake_at _).mono ?_
        rintro e w3 ⟨rfl, hO3⟩
        have HO3 := Lib.hid (HO2.out.trans hO3)
        clear hO3
        go_wp2_with fail
        go_ret
        exact ⟨rfl, HO3.out⟩
end Go.Proofs.Ytllfehahjkbhiaa
