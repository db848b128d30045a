/- What stays of the flushed sectors when others are written over them, and in a crash. No program is named. -/
import Derived.Test.YthbccnpnkfcmfaaSecRead
namespace Go.Proofs.Ythbccnpnkfcmfaa
set_option linter.unusedSimpArgs false
set_option linter.unusedVariables false
/-- D came of sectors B that were flushed, by writes. -/
structure Dev.Over (B : List ByteArray) (D : Dev) : Prop where
  ok : D.Ok
  lost : D.lost = false
  len : D.now.length = B.length
  clean : ∀ i : Nat, i < B.length → (D.sure[i]?).getD none = none → D.now[i]? = B[i]?
  kept : ∀ (i : Nat) (y : ByteArray), (D.sure[i]?).getD none = some y → B[i]? = some y
theorem Dev.Over.flush {D : Dev} (h : D.Ok) (hl : D.lost = false) : Dev.Over D.now D.flush :=
  ⟨Dev.flush_ok h, hl, rfl, fun i hi _ => rfl, fun i y hy => by
    simp only [Dev.flush, List.getElem?_replicate] at hy
    split at hy <;> simp at hy⟩
theorem Dev.Over.put {B : List ByteArray} {D : Dev} (h : Dev.Over B D) (k : Nat) {s : ByteArray} (hs : s.size = 64) : Dev.Over B (D.put k s) := by
  have hsame := h.ok.same
  have hlen := h.len
  refine ⟨Dev.put_ok h.ok k hs, h.lost, by rw [Dev.put_len]; exact h.len, ?_, ?_⟩
  · intro i hi hn
    unfold Dev.put at hn ⊢
    dsimp only at hn ⊢
    by_cases hik : k = i
    · subst hik
      cases hc : (D.sure[k]?).getD none with
      | none =>
        rw [hc] at hn
        dsimp only at hn
        rw [List.getElem?_set_self (by omega), List.getElem?_eq_getElem (show k < D.now.length by omega)] at hn
        simp at hn
      | some y => rw [hc] at hn; dsimp only at hn; rw [hc] at hn; simp at hn
    · rw [List.getElem?_set_ne hik]
      refine h.clean i hi ?_
      cases hc : (D.sure[k]?).getD none with
      | none => rw [hc] at hn; dsimp only at hn; rwa [List.getElem?_set_ne hik] at hn
      | some y => rw [hc] at hn; exact hn
  · intro i y hy
    unfold Dev.put at hy
    dsimp only at hy
    cases hc : (D.sure[k]?).getD none with
    | none =>
      rw [hc] at hy
      dsimp only at hy
      by_cases hik : k = i
      · subst hik
        by_cases hk : k < D.sure.length
        · rw [List.getElem?_set_self hk] at hy
          simp only [Option.getD_some] at hy
          rw [← h.clean k (by omega) hc, hy]
        · rw [List.getElem?_eq_none (by simp; omega)] at hy
          simp at hy
      · rw [List.getElem?_set_ne hik] at hy
        exact h.kept i y hy
    | some z => rw [hc] at hy; exact h.kept i y hy
theorem Dev.Over.puts {B : List ByteArray} {D : Dev} (h : Dev.Over B D) (at_ : Nat) (s : ByteArray) : ∀ i, i * 64 ≤ s.size → Dev.Over B (D.puts at_ s i) := by
  intro i
  induction i with
  | zero => exact fun _ => h
  | succ i ih => exact fun hi => (ih (by omega)).put _ (piece_size hi)
theorem Dev.Over.write {B : List ByteArray} {D : Dev} (h : Dev.Over B D) (at_ : Int) (s : ByteArray) : Dev.Over B (D.write at_ s).1 := by
  unfold Dev.write
  split
  · exact h.puts _ _ _ (by omega)
  · exact h
theorem Dev.put_lost (D : Dev) (k : Nat) (s : ByteArray) : (D.put k s).lost = D.lost := rfl
theorem Dev.puts_lost (D : Dev) (at_ : Nat) (s : ByteArray) (i : Nat) : (D.puts at_ s i).lost = D.lost := by
  induction i with
  | zero => rfl
  | succ i ih => simp [Dev.puts, Dev.put_lost, ih]
theorem Dev.write_lost (D : Dev) (at_ : Int) (s : ByteArray) : (D.write at_ s).1.lost = D.lost := by
  unfold Dev.write
  split
  · exact Dev.puts_lost ..
  · rfl
theorem Dev.write_len (D : Dev) (at_ : Int) (s : ByteArray) : (D.write at_ s).1.now.length = D.now.length := by
  unfold Dev.write
  split
  · exact Dev.puts_len ..
  · rfl
theorem Dev.drop1_len (keep tear : Int) (i k : Nat) (torn : Bool) (D : Dev) : (Dev.drop1 keep tear i k torn D).2.now.length = D.now.length ∧ (Dev.drop1 keep tear i k torn D).2.lost = D.lost ∧ (Dev.drop1 keep tear i k torn D).2.sure = D.sure ∧
    ∀ j, j ≠ i → (Dev.drop1 keep tear i k torn D).2.now[j]? = D.now[j]? := by
  unfold Dev.drop1
  split
  · exact ⟨rfl, rfl, rfl, fun _ _ => rfl⟩
  · split
    · exact ⟨by simp, rfl, rfl, fun j hj => List.getElem?_set_ne (Ne.symm hj)⟩
    · exact ⟨by simp, rfl, rfl, fun j hj => List.getElem?_set_ne (Ne.symm hj)⟩
theorem Dev.fall_same (keep tear : Int) : ∀ (l : List Nat) (k : Nat) (torn : Bool) (D : Dev), (Dev.fall keep tear l k torn D).now.length = D.now.length ∧ (Dev.fall keep tear l k torn D).lost = D.lost ∧
    ∀ j, j ∉ l → (Dev.fall keep tear l k torn D).now[j]? = D.now[j]?
  | [], _, _, _ => ⟨rfl, rfl, fun _ _ => rfl⟩
  | i :: l, k, torn, D => by
    rw [Dev.fall_cons]
    obtain ⟨h1, h2, h3⟩ := Dev.fall_same keep tear l (k + 1) (Dev.drop1 keep tear i k torn D).1 (Dev.drop1 keep tear i k torn D).2
    obtain ⟨g1, g2, _, g3⟩ := Dev.drop1_len keep tear i k torn D
    refine ⟨h1.trans g1, h2.trans g2, fun j hj => ?_⟩
    simp only [List.mem_cons, not_or] at hj
    exact (h3 j hj.2).trans (g3 j hj.1)
theorem Dev.crash_len (keep tear : Int) (D : Dev) : (D.crash keep tear).now.length = D.now.length := (Dev.fall_same keep tear D.loose 0 _ D).1
theorem Dev.crash_lost (keep tear : Int) (D : Dev) : (D.crash keep tear).lost = D.lost := (Dev.fall_same keep tear D.loose 0 _ D).2.1
theorem Dev.mem_loose (D : Dev) (i : Nat) : i ∈ D.loose ↔ i < D.now.length ∧ ((D.sure[i]?).getD none).isSome = true := by
  simp [Dev.loose]
/-- A sector that is not loose is behind a crash as it was flushed. -/
theorem Dev.Over.sure {B : List ByteArray} {D : Dev} (h : Dev.Over B D) (keep tear : Int) (i : Nat) (hi : i < B.length) (hn : i ∉ D.loose) : (D.crash keep tear).now[i]? = B[i]? := by
  have h1 : (D.crash keep tear).now[i]? = D.now[i]? := (Dev.fall_same keep tear D.loose 0 _ D).2.2 i hn
  rw [h1]
  refine h.clean i hi ?_
  rw [Dev.mem_loose] at hn
  cases hc : (D.sure[i]?).getD none with
  | none => rfl
  | some y => exact (hn ⟨by rw [h.len]; exact hi, by rw [hc]; rfl⟩).elim
/-- A crash that keeps all of up to 64 loose sectors. -/
theorem Dev.fall_keeps (keep tear : Int) (hk : ∀ k : Nat, k < 64 → keeps keep k = true) : ∀ (l : List Nat) (k : Nat) (torn : Bool) (D : Dev), k + l.length ≤ 64 → Dev.fall keep tear l k torn D = D
  | [], _, _, _, _ => rfl
  | i :: l, k, torn, D, h => by
    simp only [List.length_cons] at h
    rw [Dev.fall, if_pos (hk k (by omega))]
    exact Dev.fall_keeps keep tear hk l (k + 1) torn D (by omega)
theorem Dev.crash_keeps (keep tear : Int) (hk : ∀ k : Nat, k < 64 → keeps keep k = true) (D : Dev) (h : D.loose.length ≤ 64) : D.crash keep tear = D.flush := by
  unfold Dev.crash
  rw [Dev.fall_keeps keep tear hk _ _ _ _ (by omega)]
/-- A crash that keeps none, and tears none. -/
theorem Dev.fall_none (tear : Int) : ∀ (l : List Nat) (k : Nat) (D : Dev), (Dev.fall 0 tear l k true D).sure = D.sure ∧ ((∀ i ∈ l, i < D.now.length) → ∀ j ∈ l, (Dev.fall 0 tear l k true D).now[j]? = some (((D.sure[j]?).getD none).getD ⟨#[]⟩))
  | [], _, _ => ⟨rfl, fun _ j hj => by cases hj⟩
  | i :: l, k, D => by
    have hk : keeps 0 k = false := by simp [keeps]
    rw [Dev.fall, hk]
    simp only [Bool.false_eq_true, if_false, if_true]
    obtain ⟨h1, h2⟩ := Dev.fall_none tear l (k + 1) { D with now := D.now.set i (((D.sure[i]?).getD none).getD ⟨#[]⟩) }
    refine ⟨h1, fun hl j hj => ?_⟩
    by_cases hjl : j ∈ l
    · exact h2 (fun i hi => by simpa using hl i (List.mem_cons_of_mem _ hi)) j hjl
    · have : j = i := by simpa [hjl] using hj
      subst this
      rw [(Dev.fall_same 0 tear l (k + 1) true _).2.2 j hjl]
      exact List.getElem?_set_self (hl j (List.mem_cons_self ..))
theorem Dev.Over.back {B : List ByteArray} {D : Dev} (h : Dev.Over B D) : (D.crash 0 0).now = B := by
  have hlen := (Dev.crash_len 0 0 D).trans h.len
  refine List.ext_getElem? fun i => ?_
  by_cases hi : i < B.length
  · by_cases hn : i ∈ D.loose
    · have h1 := (Dev.fall_none 0 D.loose 0 D).2 (fun j hj => ((Dev.mem_loose D j).1 hj).1) i hn
      have h2 : (D.crash 0 0).now[i]? = (Dev.fall 0 0 D.loose 0 true D).now[i]? := rfl
      rw [h2, h1]
      obtain ⟨y, hy⟩ := Option.isSome_iff_exists.1 ((Dev.mem_loose D i).1 hn).2
      rw [hy]
      exact (h.kept i y hy).symm
    · exact h.sure 0 0 i hi hn
  · rw [List.getElem?_eq_none (by omega), List.getElem?_eq_none (by omega)]
theorem DevAt.drew {w : World} {d bn bm : Nat} {D : Dev} (h : DevAt w d bn bm D) : DevAt w.drew d bn bm D := h.keep rfl rfl rfl
/-- All sectors are read. -/
theorem Dev.read_all {D : Dev} (h : D.lost = false) (hp : 1 ≤ D.now.length) : D.read 0 D.now.length = (cat D.now, 0) := by
  have hc : D.check 0 D.now.length true = 0 := by
    unfold Dev.check
    rw [if_neg (by simp; omega), if_neg (by omega), if_neg (by rw [h]; decide)]
  unfold Dev.read
  rw [if_pos hc]
  simp
theorem cat_piece {n : Nat} : ∀ (l : List ByteArray), (∀ s ∈ l, s.size = n) → ∀ (i : Nat) (x : ByteArray), l[i]? = some x → (cat l).extract (n * i) (n * i + n) = x
  | [], _, i, x, h => by simp at h
  | s :: l, hs, 0, x, h => by
    simp only [List.getElem?_cons_zero, Option.some.injEq] at h
    subst h
    have := hs s (List.mem_cons_self ..)
    rw [Nat.mul_zero, Nat.zero_add, cat, ← this, ByteArray.extract_append_eq_left rfl]
  | s :: l, hs, i + 1, x, h => by
    have h1 := cat_piece l (fun t ht => hs t (List.mem_cons_of_mem _ ht)) i x (by simpa using h)
    have := hs s (List.mem_cons_self ..)
    rw [cat, ByteArray.extract_append, this, ← h1]
    have e1 : n * (i + 1) - n = n * i := by rw [Nat.mul_succ]; omega
    have e2 : n * (i + 1) + n - n = n * i + n := by rw [Nat.mul_succ]; omega
    rw [e1, e2, ByteArray.extract_eq_empty_iff.2 (by rw [this, Nat.mul_succ]; omega), ByteArray.empty_append]
end Go.Proofs.Ythbccnpnkfcmfaa
