/- hurdleref01.Ints: are two lists of whole numbers the same? -/
import Derived.Test.YtllfehahjkbhiaaProg
import Derived.Test.YtllfehahjkbhiaaOpen
import Derived.Test.YtllfehahjkbhiaaBytes
import Derived.KernelRfl
import Derived.Deep.LoopGhost
import Derived.Deep.QuietTactic
import Derived.BigQuiet
namespace Go.Proofs.Ytllfehahjkbhiaa
open Go.RowKit Go.Lib
set_option linter.unusedSimpArgs false
set_option linter.unusedVariables false
/-- A slice of whole numbers, as it reads. -/
def IntsAt (w : World) (a : Option Addr) (l : List Int) : Prop := ∀ (i : Nat) (x : Int), l[i]? = some x → ∃ b o, a = some ⟨b, o, none⟩ ∧ w.cell? ⟨b, o + i, none⟩ = some (.int .i64 x)
theorem IntsAt.nil (w : World) (a : Option Addr) : IntsAt w a [] := fun i x h => by simp at h
theorem IntsAt.keep {w w' : World} {a : Option Addr} {l : List Int} (h : IntsAt w a l) (hO : Only [] w w') : IntsAt w' a l := fun i x hx => by
  obtain ⟨b, o, e, hc⟩ := h i x hx
  exact ⟨b, o, e, hO.cell hc (by simp)⟩
theorem IntsAt.only {w w' : World} {a : Option Addr} {l : List Int} (h : IntsAt w a l) {F : List Nat} (hO : Only F w w') (hF : ∀ b o, a = some ⟨b, o, none⟩ → b ∉ F) : IntsAt w' a l := fun i x hx => by
  obtain ⟨b, o, e, hc⟩ := h i x hx
  exact ⟨b, o, e, hO.cell hc (hF b o e)⟩
theorem ints_own {w : World} {base : Nat} {e : TypeId} {v : Value} {n : Nat} {l : List Int} (h : w.ownsRow base e 1 v n (l.map (Value.int .i64))) : ∃ a cap, v = .slice a l.length cap ∧ IntsAt w a l ∧ ∀ b o, a = some ⟨b, o, none⟩ → base ≤ b := by
  have hl : l.length = n := by simpa using h.1
  subst hl
  obtain ⟨a, cap, hv, hc⟩ := own_shape h
  refine ⟨a, cap, hv, fun i x hx => ?_, fun b o e => ?_⟩
  rotate_left
  · subst e; subst hv; exact (h.lt b rfl).1
  obtain ⟨g, ha, _, hg⟩ := hc i (.int .i64 x) (by simp [hx])
  exact ⟨g, 0, ha, by rw [Nat.zero_add]; exact hg⟩
set_option maxHeartbeats 1000000 in
theorem ints_at {w : World} {a b : Option Addr} {l m : List Int} {c d : Nat} (hl : IntsAt w a l) (hm : IntsAt w b m) (hb : l.length ≤ 9223372036854775807) :
    Calls Try.prog 22 #[.slice a l.length c, .slice b m.length d] w fun e w' => e = .returned (.bool (decide (l = m))) ∧ Only [] w w' := by
  have HL := Lib.hid hl
  have HM := Lib.hid hm
  clear hl hm
  by_cases hlen : l.length = m.length
  · have hlb : ((l.length : Int) != (m.length : Int)) = false := by simp [hlen]
    have HLEN := Lib.hid hlen
    have hml : m.length ≤ 9223372036854775807 := by omega
    clear hlen
    go_enter Try.func22, Try.ntmps22
    go_wp2_with fail
    go_loopw [5] (fun v wr => ∃ k : Nat, k ≤ l.length ∧ v = .int .i64 k ∧ (∀ i, i < k → l[i]? = m[i]?) ∧ Only [] w wr) (fun v _ => l.length - (intOf v).toNat)
    case atStart => exact ⟨0, by omega, rfl, fun i hi => by omega, Only.refl _ _⟩
    case round =>
      obtain ⟨k, hk, rfl, hsame, hO⟩ := hrel
      by_cases hlt : k < l.length
      · obtain ⟨x, hx⟩ : ∃ x, l[k]? = some x := ⟨l[k], List.getElem?_eq_getElem _⟩
        have hlt2 : k < m.length := by have := HLEN.out; omega
        obtain ⟨y, hy⟩ : ∃ y, m[k]? = some y := ⟨m[k], List.getElem?_eq_getElem _⟩
        obtain ⟨b1, o1, rfl, hc1⟩ := (HL.out.keep hO) k x hx
        obtain ⟨b2, o2, rfl, hc2⟩ := (HM.out.keep hO) k y hy
        have hi1 : (k : Int) < l.length := by omega
        have hi2 : (k : Int) < m.length := by omega
        have HX := Lib.hid hx
        have HY := Lib.hid hy
        have HS := Lib.hid hsame
        clear hx hy hsame
        by_cases hxy : x = y
        · have hb2 : (x != y) = false := by simp [hxy]
          have HXY := Lib.hid hxy
          clear hxy
          go_wp2_with fail
          go_quiet (fail)
          go_wp2_with fail
          refine ⟨⟨k + 1, by omega, by go_num, ?_, hO.drewN _⟩, by simp [intOf]; omega⟩
          intro i hi
          rcases Nat.lt_or_ge i k with h | h
          · exact HS.out i h
          · obtain rfl : i = k := by omega
            rw [HX.out, HY.out, HXY.out]
        · have hb2 : (x != y) = true := by simp [hxy]
          clear hxy
          have HXY : Hid (¬ l = m) := Lib.hid (fun e => by
            have h1 := HX.out; have h2 := HY.out; rw [e, h2] at h1; cases h1; simp at hb2)
          go_wp2_with fail
          go_quiet (fail)
          go_wp2_with fail
          go_ret
          exact ⟨ret_b (decide_eq_false HXY.out).symm, hO.drewN _⟩
      · have heq : l = m := by
          apply List.ext_getElem?
          intro i
          rcases Nat.lt_or_ge i k with h | h
          · exact hsame i h
          · rw [List.getElem?_eq_none (by omega), List.getElem?_eq_none (by have := HLEN.out; omega)]
        have HE := Lib.hid heq
        clear heq hsame
        go_wp2_with fail
        go_ret
        exact ⟨ret_b (decide_eq_true HE.out).symm, hO⟩
  · have hlb : ((l.length : Int) != (m.length : Int)) = true := by simp; omega
    have HE : Hid (¬ l = m) := Lib.hid (fun e => hlen (by rw [e]))
    clear hlen
    go_enter Try.func22, Try.ntmps22
    go_wp2_with fail
    go_ret
    exact ⟨ret_b (decide_eq_false HE.out).symm, Only.refl _ _⟩
end Go.Proofs.Ytllfehahjkbhiaa
