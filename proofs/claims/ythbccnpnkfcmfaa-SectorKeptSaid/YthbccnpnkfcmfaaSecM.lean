/- A device of sectors as plain data: what is written, flushed, read, lost in a crash. No program is named. -/
import Derived.Test.YthbccnpnkfcmfaaBase
namespace Go.Proofs.Ythbccnpnkfcmfaa
set_option linter.unusedSimpArgs false
set_option linter.unusedVariables false

/-- Sectors as they were written last; of the loose ones also as they were flushed. -/
structure Dev where
  now : List ByteArray
  sure : List (Option ByteArray)
  lost : Bool
structure Dev.Ok (d : Dev) : Prop where
  pos : 1 ≤ d.now.length
  most : d.now.length ≤ 4096
  same : d.sure.length = d.now.length
  size : ∀ s ∈ d.now, s.size = 64
  sizeS : ∀ s, some s ∈ d.sure → s.size = 64
def zero64 : ByteArray := ⟨Array.replicate 64 0⟩
theorem zero64_size : zero64.size = 64 := by simp [zero64, ByteArray.size]
def Dev.new (n : Int) : Dev := ⟨List.replicate (min (max n 1) 4096).toNat zero64, List.replicate (min (max n 1) 4096).toNat none, false⟩
theorem Dev.new_ok (n : Int) : (Dev.new n).Ok := by
  refine ⟨?_, ?_, ?_, ?_, ?_⟩
  · simp only [Dev.new, List.length_replicate]; omega
  · simp only [Dev.new, List.length_replicate]; omega
  · simp [Dev.new]
  · intro s hs; rw [(List.mem_replicate.1 hs).2]; exact zero64_size
  · intro s hs; simp [Dev.new] at hs
/-- Why some sectors may not be gone to. -/
def Dev.check (d : Dev) (at_ n : Int) (ok : Bool) : Int :=
  if at_ < 0 ∨ n < 1 ∨ ok = false then 1 else if (d.now.length : Int) < at_ ∨ (d.now.length : Int) - at_ < n then 5 else if d.lost = true then 8 else 0
/-- One sector is written. -/
def Dev.put (d : Dev) (k : Nat) (s : ByteArray) : Dev :=
  ⟨d.now.set k s, (match (d.sure[k]?).getD none with | some _ => d.sure | none => d.sure.set k d.now[k]?), d.lost⟩
/-- The first i sectors of a text are written from 'at_' on. -/
def Dev.puts (d : Dev) (at_ : Nat) (s : ByteArray) : Nat → Dev
  | 0 => d
  | i + 1 => (Dev.puts d at_ s i).put (at_ + i) (s.extract (i * 64) ((i + 1) * 64))
def Dev.write (d : Dev) (at_ : Int) (s : ByteArray) : Dev × Int :=
  if d.check at_ ((s.size : Int) / 64) ((s.size : Int) % 64 == 0) = 0 then (d.puts at_.toNat s (s.size / 64), 0) else (d, d.check at_ ((s.size : Int) / 64) ((s.size : Int) % 64 == 0))
/-- All of some texts, one behind the other. -/
def cat : List ByteArray → ByteArray
  | [] => ⟨#[]⟩
  | s :: r => s ++ cat r
def Dev.read (d : Dev) (at_ n : Int) : ByteArray × Int :=
  if d.check at_ n true = 0 then (cat ((d.now.drop at_.toNat).take n.toNat), 0) else (⟨#[]⟩, d.check at_ n true)
def Dev.flush (d : Dev) : Dev := ⟨d.now, List.replicate d.now.length none, d.lost⟩
def Dev.lose (d : Dev) : Dev := ⟨d.now, List.replicate d.now.length none, true⟩
/-- The numbers of loose sectors. -/
def Dev.loose (d : Dev) : List Nat := (List.range d.now.length).filter fun i => ((d.sure[i]?).getD none).isSome
/-- Is the k-th loose sector kept? -/
def keeps (keep : Int) (k : Nat) : Bool := decide (k < 64) && decide (keep / 2 ^ k % 2 = 1)
/-- The loose sectors l, from the k-th on, in a crash; 'torn': nothing is torn any more. -/
def Dev.fall (keep tear : Int) : List Nat → Nat → Bool → Dev → Dev
  | [], _, _, d => d
  | i :: l, k, torn, d =>
    if keeps keep k then Dev.fall keep tear l (k + 1) torn d
    else if torn then Dev.fall keep tear l (k + 1) true { d with now := d.now.set i (((d.sure[i]?).getD none).getD ⟨#[]⟩) }
    else Dev.fall keep tear l (k + 1) true { d with now := d.now.set i (((d.now[i]?).getD ⟨#[]⟩).extract 0 tear.toNat ++ (((d.sure[i]?).getD none).getD ⟨#[]⟩).extract tear.toNat 64) }
/-- One loose sector in a crash: the state behind it, and whether nothing is torn any more. -/
def Dev.drop1 (keep tear : Int) (i k : Nat) (torn : Bool) (d : Dev) : Bool × Dev :=
  if keeps keep k then (torn, d)
  else if torn then (true, { d with now := d.now.set i (((d.sure[i]?).getD none).getD ⟨#[]⟩) })
  else (true, { d with now := d.now.set i (((d.now[i]?).getD ⟨#[]⟩).extract 0 tear.toNat ++ (((d.sure[i]?).getD none).getD ⟨#[]⟩).extract tear.toNat 64) })
theorem Dev.fall_cons (keep tear : Int) (i : Nat) (l : List Nat) (k : Nat) (torn : Bool) (d : Dev) :
    Dev.fall keep tear (i :: l) k torn d = Dev.fall keep tear l (k + 1) (Dev.drop1 keep tear i k torn d).1 (Dev.drop1 keep tear i k torn d).2 := by
  unfold Dev.drop1
  rw [Dev.fall]
  split
  · rfl
  · split <;> rfl
def Dev.crash (d : Dev) (keep tear : Int) : Dev := (Dev.fall keep tear d.loose 0 (decide (tear ≤ 0 ∨ 64 ≤ tear)) d).flush

/-! ### What is kept -/
theorem Dev.put_len (d : Dev) (k : Nat) (s : ByteArray) : (d.put k s).now.length = d.now.length := by simp [Dev.put]
theorem Dev.put_ok {d : Dev} (h : d.Ok) (k : Nat) {s : ByteArray} (hs : s.size = 64) : (d.put k s).Ok := by
  refine ⟨by simpa [Dev.put] using h.pos, by simpa [Dev.put] using h.most, ?_, ?_, ?_⟩
  · have := h.same
    unfold Dev.put; dsimp only
    split <;> simp [this]
  · intro t ht
    rcases List.mem_or_eq_of_mem_set ht with ht | rfl
    · exact h.size t ht
    · exact hs
  · intro t ht
    unfold Dev.put at ht; dsimp only at ht
    split at ht
    · exact h.sizeS t ht
    · rcases List.mem_or_eq_of_mem_set ht with ht | ht
      · exact h.sizeS t ht
      · exact h.size t (List.mem_of_getElem? ht.symm)
theorem Dev.puts_len (d : Dev) (at_ : Nat) (s : ByteArray) (i : Nat) : (d.puts at_ s i).now.length = d.now.length := by
  induction i with
  | zero => rfl
  | succ i ih => simp [Dev.puts, Dev.put_len, ih]
theorem piece_size {s : ByteArray} {i : Nat} (h : (i + 1) * 64 ≤ s.size) : (s.extract (i * 64) ((i + 1) * 64)).size = 64 := by
  simp [ByteArray.size_extract]; omega
theorem Dev.puts_ok {d : Dev} (h : d.Ok) (at_ : Nat) (s : ByteArray) : ∀ i, i * 64 ≤ s.size → (d.puts at_ s i).Ok := by
  intro i
  induction i with
  | zero => exact fun _ => h
  | succ i ih => exact fun hi => Dev.put_ok (ih (by omega)) _ (piece_size hi)
theorem Dev.write_ok {d : Dev} (h : d.Ok) (at_ : Int) (s : ByteArray) : (d.write at_ s).1.Ok := by
  unfold Dev.write
  split
  · exact Dev.puts_ok h _ _ _ (by omega)
  · exact h
theorem Dev.flush_ok {d : Dev} (h : d.Ok) : d.flush.Ok := ⟨h.pos, h.most, by simp [Dev.flush], h.size, fun s hs => by simp [Dev.flush] at hs⟩
theorem Dev.lose_ok {d : Dev} (h : d.Ok) : d.lose.Ok := ⟨h.pos, h.most, by simp [Dev.lose], h.size, fun s hs => by simp [Dev.lose] at hs⟩
end Go.Proofs.Ythbccnpnkfcmfaa
