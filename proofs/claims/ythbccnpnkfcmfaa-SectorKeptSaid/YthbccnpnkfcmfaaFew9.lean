/- Few: are the sector's deeds not too many, and too long? -/
import Derived.Test.YthbccnpnkfcmfaaLaw9
import Derived.Test.YthbccnpnkfcmfaaDeed9
namespace Go.Proofs.Ythbccnpnkfcmfaa
open Go.RowKit Go.Lib
set_option linter.unusedSimpArgs false
set_option linter.unusedVariables false
def few9 (n : Int) (l : List Deed9) : Bool := decide (l.length ≤ 40) && (decide (n ≤ 300) && l.all fun d => decide (d.text.size ≤ 3000))
/-- What Few gives back. -/
def few9I (n : Int) (l : List Deed9) : Int := if few9 n l then 1 else 0
/-- An element's cells, as facts of the walk. -/
theorem deed9_at {w : World} {a : Option Addr} {l : List Deed9} (h : RowsAt Deed9.cells 5 w a l) {i : Nat} {x : Deed9} (hi : l[i]? = some x) :
    ∃ b o, a = some ⟨b, o, none⟩ ∧ w.cell? ⟨b, o + i * 5, none⟩ = some (.int .i64 x.kind) ∧ w.cell? ⟨b, o + i * 5 + 1, none⟩ = some (.int .i64 x.at_) ∧ w.cell? ⟨b, o + i * 5 + 2, none⟩ = some (.int .i64 x.n) ∧
      w.cell? ⟨b, o + i * 5 + 3, none⟩ = some (.string x.text) ∧ w.cell? ⟨b, o + i * 5 + 4, none⟩ = some (.int .u64 x.keep) := by
  obtain ⟨b, o, e, hc⟩ := h i x hi
  exact ⟨b, o, e, hc 0 _ rfl, hc 1 _ rfl, hc 2 _ rfl, hc 3 _ rfl, hc 4 _ rfl⟩
set_option maxHeartbeats 1000000 in
theorem few_at {w : World} {a : Option Addr} {cap : Nat} {l : List Deed9} (n : Int) (h : RowsAt Deed9.cells 5 w a l) (hl : l.length ≤ 9223372036854775807) (hok : ∀ d ∈ l, d.Ok) :
    Calls Try.prog 7 #[.int .i64 n, .slice a l.length cap] w fun e w' => e = .returned (.int .i64 (few9I n l)) ∧ w = w' := by
  have H := Lib.hid h
  have HOK := Lib.hid hok
  clear h hok
  by_cases h1 : l.length ≤ 40
  · by_cases h2 : n ≤ 300
    · have hb1 : decide (40 < l.length) = false := decide_eq_false (by omega)
      have hb1' : decide (40 < (l.length : Int)) = false := decide_eq_false (by omega)
      have hb2 : decide (300 < n) = false := decide_eq_false (by omega)
      go_enter Try.func7, Try.ntmps7
      go_wp2_with fail
      go_loop [5] (fun v => ∃ k : Nat, k ≤ l.length ∧ v = .int .i64 k ∧ ∀ i x, i < k → l[i]? = some x → x.text.size ≤ 3000) (fun v => l.length - (intOf v).toNat)
      case atStart => exact ⟨0, by omega, rfl, fun i x hi => by omega⟩
      case round =>
        obtain ⟨k, hk, rfl, hall⟩ := hrel
        by_cases hlt : k < l.length
        · obtain ⟨x, hx⟩ : ∃ x, l[k]? = some x := ⟨l[k], List.getElem?_eq_getElem _⟩
          obtain ⟨b, o, rfl, _, _, _, c3, _⟩ := deed9_at H.out hx
          have hs := (HOK.out x (List.mem_of_getElem? hx)).text
          unfold maxLen at hs
          have HX := Lib.hid hx
          have HA := Lib.hid hall
          have hlt' : (k : Int) < l.length := by omega
          clear hx hall
          by_cases h3 : x.text.size ≤ 3000
          · have hb3 : decide (3000 < x.text.size) = false := decide_eq_false (by omega)
            have hb3' : decide (3000 < (x.text.size : Int)) = false := decide_eq_false (by omega)
            go_wp2_with fail
            go_round
            case rel =>
              refine ⟨k + 1, by omega, by go_num, fun i y hi hy => ?_⟩
              rcases Nat.lt_or_ge i k with h | h
              · exact HA.out i y h hy
              · obtain rfl : i = k := by omega
                rw [HX.out] at hy; cases hy; exact h3
            case measure => simp [intOf]; omega
          · have hb3 : decide (3000 < x.text.size) = true := decide_eq_true (by omega)
            have hb3' : decide (3000 < (x.text.size : Int)) = true := decide_eq_true (by omega)
            go_wp2_with fail
            go_ret
            refine ⟨ret_i ?_, rfl⟩
            rw [few9I, if_neg]
            unfold few9
            simp only [Bool.and_eq_true, decide_eq_true_eq, List.all_eq_true]
            exact fun hh => h3 (hh.2.2 x (List.mem_of_getElem? HX.out))
        · have HA := Lib.hid hall
          clear hall
          go_wp2_with fail
          go_ret
          refine ⟨ret_i ?_, rfl⟩
          rw [few9I, if_pos]
          unfold few9
          simp only [Bool.and_eq_true, decide_eq_true_eq, List.all_eq_true]
          refine ⟨h1, h2, fun x hx => ?_⟩
          obtain ⟨i, hi⟩ := List.getElem?_of_mem hx
          exact HA.out i x (by have := (List.getElem?_eq_some_iff.1 hi).1; omega) hi
    · have hb1 : decide (40 < l.length) = false := decide_eq_false (by omega)
      have hb1' : decide (40 < (l.length : Int)) = false := decide_eq_false (by omega)
      have hb2 : decide (300 < n) = true := decide_eq_true (by omega)
      go_enter Try.func7, Try.ntmps7
      go_wp2_with fail
      go_ret
      exact ⟨ret_i (by rw [few9I, if_neg]; unfold few9; simp only [Bool.and_eq_true, decide_eq_true_eq]; exact fun hh => absurd hh.2.1 (by omega)), rfl⟩
  · have hb1 : decide (40 < l.length) = true := decide_eq_true (by omega)
    have hb1' : decide (40 < (l.length : Int)) = true := decide_eq_true (by omega)
    go_enter Try.func7, Try.ntmps7
    go_wp2_with fail
    go_ret
    exact ⟨ret_i (by rw [few9I, if_neg]; unfold few9; simp only [Bool.and_eq_true, decide_eq_true_eq]; exact fun hh => absurd hh.1 (by omega)), rfl⟩
end Go.Proofs.Ythbccnpnkfcmfaa
