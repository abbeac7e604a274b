/- Plain: the chapter's examples. No program in sight. -/
import Derived.Test.YtmggpfngbkbkmaaGreatDoorPlainLess
namespace Go.Proofs.YtmggpfngbkbkmaaGreatDoor
open Go.RowKit
set_option linter.unusedVariables false
set_option linter.unusedSimpArgs false

theorem less_data (a b : ByteArray) : less a b = Op.bytesLess a.data.toList b.data.toList := by rw [less_bl, Lib.toList_data, Lib.toList_data]
theorem emp_data (a : ByteArray) : emp a = a.data.toList.isEmpty := by unfold emp; rw [Lib.toList_data]
theorem aw1 : PMsg.may ⟨1, ⟨#[120]⟩, ⟨#[]⟩, ⟨#[49]⟩⟩ = true := by
  unfold PMsg.may; simp only [emp_data]; decide
theorem aw1t : PMsg.text ⟨1, ⟨#[120]⟩, ⟨#[]⟩, ⟨#[49]⟩⟩ = ⟨#[1, 0, 1, 120, 0, 1, 49]⟩ := by
  unfold PMsg.text; rw [aw1]; decide
theorem aw2 : PMsg.may ⟨3, ⟨#[98]⟩, ⟨#[97]⟩, ⟨#[]⟩⟩ = false := by
  unfold PMsg.may; simp only [emp_data, less_data]; decide
theorem aw3 : PMsg.may ⟨3, ⟨#[97]⟩, ⟨#[122]⟩, ⟨#[]⟩⟩ = true := by
  unfold PMsg.may; simp only [emp_data, less_data]; decide
theorem aw4 : PMsg.may ⟨3, ⟨#[97]⟩, ⟨#[99]⟩, ⟨#[]⟩⟩ = true := by
  unfold PMsg.may; simp only [emp_data, less_data]; decide
theorem aw1h : PMsg.touches ⟨1, ⟨#[120]⟩, ⟨#[]⟩, ⟨#[49]⟩⟩ ⟨#[120]⟩ = true := by
  unfold PMsg.touches PMsg.hits; simp only [aw1, Lib.toList_data]; decide
theorem aw3h : PMsg.touches ⟨3, ⟨#[97]⟩, ⟨#[122]⟩, ⟨#[]⟩⟩ ⟨#[120]⟩ = true := by
  unfold PMsg.touches PMsg.hits; simp only [aw3, less_data]; decide
theorem aw4h : PMsg.touches ⟨3, ⟨#[97]⟩, ⟨#[99]⟩, ⟨#[]⟩⟩ ⟨#[98]⟩ = true := by
  unfold PMsg.touches PMsg.hits; simp only [aw4, less_data]; decide
theorem aw1s : PMsg.makesS ⟨1, ⟨#[120]⟩, ⟨#[]⟩, ⟨#[49]⟩⟩ ⟨#[120]⟩ ⟨#[]⟩ false = ⟨#[49]⟩ := by
  unfold PMsg.makesS; rw [aw1h]; rfl
theorem aw1b : PMsg.makesB ⟨1, ⟨#[120]⟩, ⟨#[]⟩, ⟨#[49]⟩⟩ ⟨#[120]⟩ ⟨#[]⟩ false = true := by
  unfold PMsg.makesB; rw [aw1h]; rfl
theorem aw3s : PMsg.makesS ⟨3, ⟨#[97]⟩, ⟨#[122]⟩, ⟨#[]⟩⟩ ⟨#[120]⟩ ⟨#[49]⟩ true = ⟨#[]⟩ := by
  unfold PMsg.makesS; rw [aw3h]; rfl
theorem aw3b : PMsg.makesB ⟨3, ⟨#[97]⟩, ⟨#[122]⟩, ⟨#[]⟩⟩ ⟨#[120]⟩ ⟨#[49]⟩ true = false := by
  unfold PMsg.makesB; rw [aw3h]; rfl
end Go.Proofs.YtmggpfngbkbkmaaGreatDoor
