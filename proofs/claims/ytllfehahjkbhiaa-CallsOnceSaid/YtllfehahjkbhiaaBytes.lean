/- Rows of bytes that the call owns, as texts; cuts of rows. No program is named. -/
import Derived.Test.YtllfehahjkbhiaaBase
import Derived.Lib.AppendStr
import Derived.Lib.ConvBytes
import Derived.Laws.MakeOwn
namespace Go.Proofs.Ytllfehahjkbhiaa
open Go.RowKit Go.Lib
set_option linter.unusedSimpArgs false
set_option linter.unusedVariables false
theorem strCells_append (s t : ByteArray) : strCells (s ++ t) = strCells s ++ strCells t := by
  simp [strCells]
theorem strCells_nil : strCells ⟨#[]⟩ = [] := rfl
theorem strCells_inj {s t : ByteArray} (h : strCells s = strCells t) : s = t := by
  have h1 : ∀ (l m : List UInt8), (l.map fun b => Value.int .u8 b.toNat) = (m.map fun b => Value.int .u8 b.toNat) → l = m := by
    intro l
    induction l with
    | nil => intro m h; cases m <;> simp_all
    | cons a l ih =>
      intro m h
      cases m with
      | nil => simp at h
      | cons b m =>
        simp only [List.map_cons, List.cons.injEq, Value.int.injEq, true_and] at h
        have e : a = b := UInt8.toNat_inj.1 (by have := h.1; omega)
        rw [e, ih m h.2]
  have := h1 _ _ h
  cases s; cases t
  simp_all
theorem foldl_bytes (l : List UInt8) : ∀ r : ByteArray, (l.map fun b => (b.toNat : Int)).foldl (fun r n => r.push (UInt8.ofNat n.toNat)) r = r ++ ⟨l.toArray⟩ := by
  induction l with
  | nil => intro r; apply ByteArray.ext; simp
  | cons a l ih =>
    intro r
    simp only [List.map_cons, List.foldl_cons, ih]
    apply ByteArray.ext
    simp [ByteArray.push]
/-- What a row that the call owns is: its length, and where its cells lie. -/
theorem own_shape {w : World} {base : Nat} {e : TypeId} {v : Value} {n : Nat} {xs : List Value} (h : w.ownsRow base e 1 v n xs) :
    ∃ (a : Option Addr) (cap : Nat), v = .slice a n cap ∧ ∀ j u, xs[j]? = some u → ∃ g, a = some ⟨g, 0, none⟩ ∧ base ≤ g ∧ w.cell? ⟨g, j, none⟩ = some u := by
  have hl : xs.length = n := by simpa using h.1
  rcases h.2 with ⟨rfl, rfl⟩ | ⟨g, cap, cur, rfl, hb, _⟩
  · refine ⟨none, 0, rfl, fun j u hu => ?_⟩
    rw [List.eq_nil_of_length_eq_zero hl] at hu; simp at hu
  · refine ⟨_, cap, rfl, fun j u hu => ⟨g, rfl, hb, ?_⟩⟩
    have hj : j < n := by rw [← hl]; exact (List.getElem?_eq_some_iff.1 hu).1
    rw [h.cellAt j (by omega)]; exact hu
section
variable {P : Program} {w : World}
theorem loadCells_own {base : Nat} {e : TypeId} {g n cap : Nat} {xs : List Value} (h : w.ownsRow base e 1 (.slice (some ⟨g, 0, none⟩) n cap) n xs) : (loadCells ⟨g, 0, none⟩ n).run P w = .ok xs.toArray w := by
  have hc := h.cells (g := g) rfl
  have hl : xs.length = n := by simpa using h.1
  subst hl
  have key : ∀ (m i : Nat) (acc : Array Value), i + m = xs.length → (loadCellsFrom ⟨g, 0, none⟩ i m acc).run P w = .ok (acc ++ (xs.drop i).toArray) w := by
    intro m
    induction m with
    | zero => intro i acc hi; simp [loadCellsFrom, Sem.run_pure, List.drop_of_length_le (show xs.length ≤ i by omega)]
    | succ m ih =>
      intro i acc hi
      have hlt : i < xs.length := by omega
      have hcell : w.cell? ((⟨g, 0, none⟩ : Addr).add i) = some xs[i] := hc i _ (List.getElem?_eq_getElem hlt)
      simp only [loadCellsFrom, Sem.run_bind, load, Sem.run, hcell, Result.andThen]
      rw [ih (i + 1) _ (by omega), List.drop_eq_getElem_cons hlt]
      congr 1
      apply Array.ext'
      simp
  have := key xs.length 0 #[] (by omega)
  simpa [loadCells] using this
/-- 'string(b)', b a row of the call's own that holds a text. -/
theorem run_string_own {base : Nat} {src dst e : TypeId} {v : Value} {n : Nat} {s : ByteArray} (hs : P.underlying src = some (.slice e)) (he : P.underlying e = some (.int .u8)) (hd : P.underlying dst = some .string)
    (h : w.ownsRow base e 1 v n (strCells s)) : (convert src dst v).run P w = .ok (.string s) w := by
  rcases h.2 with ⟨rfl, rfl⟩ | ⟨g, cap, cur, rfl, _, _, _, _, _, _⟩
  · have : strCells s = strCells ⟨#[]⟩ := List.eq_nil_of_length_eq_zero (by simpa using h.1)
    obtain rfl := strCells_inj this
    rw [run_convert_bytes_string w src dst e _ _ _ hs he hd]
    simp [Conv.bytesToString, Sem.run_pure]
    rfl
  · rw [run_convert_bytes_string w src dst e _ _ _ hs he hd]
    have hl := loadCells_own (P := P) h
    have hm : (strCells s).toArray = ((s.data.toList.map fun b => (b.toNat : Int)).map (Value.int .u8)).toArray := by simp [strCells]
    rw [hm] at hl
    rw [run_bytesToString w _ n cap _ hl, foldl_bytes]
    congr 2
/-- 'x[l:h]' of a row: l below the capacity. -/
theorem run_cut {T E : TypeId} {i : TypeInfo} {sz : Nat} (ht : P.underlying T = some (.slice E)) (hi : P.info? E = some i) (hz : i.size = sz) (b o len cap l h : Nat) (x y : Int) (hx : x = l) (hy : y = h) (h1 : l ≤ h) (h2 : h ≤ cap) (h3 : l < cap) :
    (Instr.slice T (.slice (some ⟨b, o, none⟩) len cap) (some (.int .i64 x)) (some (.int .i64 y)) none).run P w = .ok (.slice (some ⟨b, o + l * sz, none⟩) (h - l) (cap - l)) w := by
  subst hx; subst hy; subst hz
  have ht' : P.underlying T = some (.slice (P.elem T)) := by simp [Program.elem, ht]
  have he : P.elem T = E := by simp [Program.elem, ht]
  rw [run_slice_lh w T _ len cap ht' .i64 .i64 _ _ (by omega) (by omega) (by omega)]
  simp [he, sizeOf, typeInfo, hi, Result.andThen, sliced, Nat.ne_of_gt h3, Addr.add_lit]
theorem run_cutl {T E : TypeId} {i : TypeInfo} {sz : Nat} (ht : P.underlying T = some (.slice E)) (hi : P.info? E = some i) (hz : i.size = sz) (b o len cap l : Nat) (x : Int) (hx : x = l) (h1 : l ≤ len) (h3 : l < cap) :
    (Instr.slice T (.slice (some ⟨b, o, none⟩) len cap) (some (.int .i64 x)) none none).run P w = .ok (.slice (some ⟨b, o + l * sz, none⟩) (len - l) (cap - l)) w := by
  subst hx; subst hz
  have ht' : P.underlying T = some (.slice (P.elem T)) := by simp [Program.elem, ht]
  have he : P.elem T = E := by simp [Program.elem, ht]
  rw [run_slice_l w T _ len cap ht' .i64 _ (by omega) (by omega)]
  simp [he, sizeOf, typeInfo, hi, Result.andThen, sliced, Nat.ne_of_gt h3, Addr.add_lit]
theorem run_cuth {T E : TypeId} {i : TypeInfo} (ht : P.underlying T = some (.slice E)) (hi : P.info? E = some i) (a : Option Addr) (len cap h : Nat) (y : Int) (hy : y = h) (h2 : h ≤ cap) :
    (Instr.slice T (.slice a len cap) none (some (.int .i64 y)) none).run P w = .ok (.slice a h cap) w := by
  subst hy
  have ht' : P.underlying T = some (.slice (P.elem T)) := by simp [Program.elem, ht]
  have he : P.elem T = E := by simp [Program.elem, ht]
  rw [run_slice_h w T _ len cap ht' .i64 _ (by omega) (by omega)]
  simp [he, sizeOf, typeInfo, hi, Result.andThen, sliced]
  intro _
  cases a <;> simp [Addr.add]
end
end Go.Proofs.Ytllfehahjkbhiaa
