/- One call alone, as plain data: what is sent of it. No program is named. -/
import Derived.Test.YtllfehahjkbhiaaCalD
namespace Go.Proofs.Ytllfehahjkbhiaa
set_option linter.unusedSimpArgs false
set_option linter.unusedVariables false
theorem dids_one {k : Kc} (now : Int) (hw : k.what = 1) : dids [k] now = if k.due ≤ now then [k.id] else [] := by
  have h1 : tmsOf [k] = [k.tm] := by simp [tmsOf, opens, hw]
  unfold dids tdue
  rw [h1]
  have h2 : k.tm.at_ = k.due := rfl
  have h3 : k.tm.id = k.id := rfl
  by_cases h : k.due ≤ now
  · simp [h, h2, h3]
  · simp [h, h2, h3]
theorem kfind_one (k : Kc) : kfind k.id [k] = some k := by simp [kfind]
theorem kset_one (k : Kc) (f : Kc → Kc) : kset k.id f [k] = [f k] := by simp [kset]
theorem cdue_again {me next now : Int} {k : Kc} (hm : momentB now = true) (hw : k.what = 1) (hd : k.due ≤ now) (h8 : ¬ 8 ≤ k.sent) : cdue ⟨me, next, [k]⟩ now = (⟨me, next, [k.again now]⟩, [k.msg me]) := by
  unfold cdue
  rw [if_pos hm]
  have h1 : dids [k] now = [k.id] := by rw [dids_one now hw, if_pos hd]
  have h2 : dfold ⟨me, next, [k]⟩ now (dids [k] now).length = ([k.again now], [k.msg me]) := by
    unfold dfold
    dsimp only
    rw [h1]
    simp only [List.length_cons, List.length_nil, List.take_succ_cons, List.take_nil, List.foldl_cons, List.foldl_nil]
    unfold dstep
    dsimp only
    rw [kfind_one]
    dsimp only
    rw [if_neg h8, kset_one]; rfl
  dsimp only
  rw [h2]
theorem cdue_giveUp {me next now : Int} {k : Kc} (hm : momentB now = true) (hw : k.what = 1) (hd : k.due ≤ now) (h8 : 8 ≤ k.sent) : cdue ⟨me, next, [k]⟩ now = (⟨me, next, [k.giveUp]⟩, []) := by
  unfold cdue
  rw [if_pos hm]
  have h1 : dids [k] now = [k.id] := by rw [dids_one now hw, if_pos hd]
  have h2 : dfold ⟨me, next, [k]⟩ now (dids [k] now).length = ([k.giveUp], []) := by
    unfold dfold
    dsimp only
    rw [h1]
    simp only [List.length_cons, List.length_nil, List.take_succ_cons, List.take_nil, List.foldl_cons, List.foldl_nil]
    unfold dstep
    dsimp only
    rw [kfind_one]
    dsimp only
    rw [if_pos h8, kset_one]
  dsimp only
  rw [h2]
theorem cdue_still {me next now : Int} {k : Kc} (hw : k.what = 1) (hd : now < k.due) : cdue ⟨me, next, [k]⟩ now = (⟨me, next, [k]⟩, []) := by
  unfold cdue
  split
  · have h1 : dids [k] now = [] := by rw [dids_one now hw, if_neg (by omega)]
    have h2 : dfold ⟨me, next, [k]⟩ now (dids [k] now).length = ([k], []) := by
      unfold dfold; dsimp only; rw [h1]; rfl
    dsimp only
    rw [h2]
  · rfl
end Go.Proofs.Ytllfehahjkbhiaa
