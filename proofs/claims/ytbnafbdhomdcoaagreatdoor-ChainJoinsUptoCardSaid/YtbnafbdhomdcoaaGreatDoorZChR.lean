/-
 ChR, without what this claim does not reach.
-/
import Derived.Test.YtbnafbdhomdcoaaGreatDoorZm5
import Derived.Test.YtbnafbdhomdcoaaGreatDoorZm3
namespace Go.Proofs.YtbnafbdhomdcoaaGreatDoor
open Go.RowKit Go.Shelf Go.Lib
def pickT (t : List (Int × ByteArray × ByteArray)) (n : Int) : ByteArray := match t.find? fun x => x.1 == n with
 | some x => x.2.2
 | none => ⟨#[]⟩
theorem pickT_skip {a b : List (Int × ByteArray × ByteArray)} {n : Int} (h : ∀ x ∈ a, x.1 ≠ n) : pickT (a ++ b) n = pickT b n := by
 have h1 : a.find? (fun x => x.1 == n) = none := List.find?_eq_none.2 fun x hx => by simpa using h x hx
 unfold pickT
 rw [List.find?_append, h1]
 rfl
def tabC : List (Int × ByteArray × ByteArray) := [(500, ⟨#[53, 48, 48]⟩, ⟨#[73, 110, 116, 101, 114, 110, 97, 108, 32, 83, 101, 114, 118, 101, 114, 32, 69, 114, 114, 111, 114]⟩), (501, ⟨#[53, 48, 49]⟩, ⟨#[78, 111, 116, 32, 73, 109, 112, 108, 101, 109, 101, 110, 116, 101, 100]⟩), (502, ⟨#[53, 48, 50]⟩, ⟨#[66, 97, 100, 32, 71, 97, 116, 101, 119, 97, 121]⟩), (503, ⟨#[53, 48, 51]⟩, ⟨#[83, 101, 114, 118, 105, 99, 101, 32, 85, 110, 97, 118, 97, 105, 108, 97, 98, 108, 101]⟩), (504, ⟨#[53, 48, 52]⟩, ⟨#[71, 97, 116, 101, 119, 97, 121, 32, 84, 105, 109, 101, 111, 117, 116]⟩), (505, ⟨#[53, 48, 53]⟩, ⟨#[72, 84, 84, 80, 32, 86, 101, 114, 115, 105, 111, 110, 32, 78, 111, 116, 32, 83, 117, 112, 112, 111, 114, 116, 101, 100]⟩)]
set_option maxRecDepth 20000 in
set_option maxHeartbeats 2000000 in
theorem serverReason_any (n : Int) (w : World) : Calls Tryz.prog 116 #[.int .i64 n] w fun e w' => e = .returned (.string (pickT tabC n)) ∧ w = w' := by
 by_cases h500 : n = 500
 ·subst h500
  go_enter Tryz.func116, Tryz.ntmps116
  go_wp2
  go_ret
  exact ⟨rfl, rfl⟩
 by_cases h501 : n = 501
 ·subst h501
  go_enter Tryz.func116, Tryz.ntmps116
  go_wp2
  go_ret
  exact ⟨rfl, rfl⟩
 by_cases h502 : n = 502
 ·subst h502
  go_enter Tryz.func116, Tryz.ntmps116
  go_wp2
  go_ret
  exact ⟨rfl, rfl⟩
 by_cases h503 : n = 503
 ·subst h503
  go_enter Tryz.func116, Tryz.ntmps116
  go_wp2
  go_ret
  exact ⟨rfl, rfl⟩
 by_cases h504 : n = 504
 ·subst h504
  go_enter Tryz.func116, Tryz.ntmps116
  go_wp2
  go_ret
  exact ⟨rfl, rfl⟩
 by_cases h505 : n = 505
 ·subst h505
  go_enter Tryz.func116, Tryz.ntmps116
  go_wp2
  go_ret
  exact ⟨rfl, rfl⟩
 have q500 : (n == 500) = false := by simpa using h500
 have q501 : (n == 501) = false := by simpa using h501
 have q502 : (n == 502) = false := by simpa using h502
 have q503 : (n == 503) = false := by simpa using h503
 have q504 : (n == 504) = false := by simpa using h504
 have q505 : (n == 505) = false := by simpa using h505
 have hs : ∀ x ∈ tabC, x.1 ≠ n := by
  intro x hx
  simp only [tabC, List.mem_cons, List.not_mem_nil, or_false] at hx
  rcases hx with rfl | rfl | rfl | rfl | rfl | rfl
  all_goals (intro e; simp only at e; omega)
 have HE := Lib.hid (show pickT tabC n = ⟨#[]⟩ by
  have h1 : tabC.find? (fun x => x.1 == n) = none := List.find?_eq_none.2 fun x hx => by simpa using hs x hx
  unfold pickT
  rw [h1])
 clear hs h500 h501 h502 h503 h504 h505
 go_enter Tryz.func116, Tryz.ntmps116
 go_wp2
 go_ret
 exact ⟨by rw [HE.out]; rfl, rfl⟩
def tabB : List (Int × ByteArray × ByteArray) := [(400, ⟨#[52, 48, 48]⟩, ⟨#[66, 97, 100, 32, 82, 101, 113, 117, 101, 115, 116]⟩), (401, ⟨#[52, 48, 49]⟩, ⟨#[85, 110, 97, 117, 116, 104, 111, 114, 105, 122, 101, 100]⟩), (403, ⟨#[52, 48, 51]⟩, ⟨#[70, 111, 114, 98, 105, 100, 100, 101, 110]⟩), (404, ⟨#[52, 48, 52]⟩, ⟨#[78, 111, 116, 32, 70, 111, 117, 110, 100]⟩), (405, ⟨#[52, 48, 53]⟩, ⟨#[77, 101, 116, 104, 111, 100, 32, 78, 111, 116, 32, 65, 108, 108, 111, 119, 101, 100]⟩), (406, ⟨#[52, 48, 54]⟩, ⟨#[78, 111, 116, 32, 65, 99, 99, 101, 112, 116, 97, 98, 108, 101]⟩), (408, ⟨#[52, 48, 56]⟩, ⟨#[82, 101, 113, 117, 101, 115, 116, 32, 84, 105, 109, 101, 111, 117, 116]⟩), (411, ⟨#[52, 49, 49]⟩, ⟨#[76, 101, 110, 103, 116, 104, 32, 82, 101, 113, 117, 105, 114, 101, 100]⟩), (412, ⟨#[52, 49, 50]⟩, ⟨#[80, 114, 101, 99, 111, 110, 100, 105, 116, 105, 111, 110, 32, 70, 97, 105, 108, 101, 100]⟩), (413, ⟨#[52, 49, 51]⟩, ⟨#[67, 111, 110, 116, 101, 110, 116, 32, 84, 111, 111, 32, 76, 97, 114, 103, 101]⟩), (414, ⟨#[52, 49, 52]⟩, ⟨#[85, 82, 73, 32, 84, 111, 111, 32, 76, 111, 110, 103]⟩), (415, ⟨#[52, 49, 53]⟩, ⟨#[85, 110, 115, 117, 112, 112, 111, 114, 116, 101, 100, 32, 77, 101, 100, 105, 97, 32, 84, 121, 112, 101]⟩), (416, ⟨#[52, 49, 54]⟩, ⟨#[82, 97, 110, 103, 101, 32, 78, 111, 116, 32, 83, 97, 116, 105, 115, 102, 105, 97, 98, 108, 101]⟩), (417, ⟨#[52, 49, 55]⟩, ⟨#[69, 120, 112, 101, 99, 116, 97, 116, 105, 111, 110, 32, 70, 97, 105, 108, 101, 100]⟩), (421, ⟨#[52, 50, 49]⟩, ⟨#[77, 105, 115, 100, 105, 114, 101, 99, 116, 101, 100, 32, 82, 101, 113, 117, 101, 115, 116]⟩), (422, ⟨#[52, 50, 50]⟩, ⟨#[85, 110, 112, 114, 111, 99, 101, 115, 115, 97, 98, 108, 101, 32, 67, 111, 110, 116, 101, 110, 116]⟩), (426, ⟨#[52, 50, 54]⟩, ⟨#[85, 112, 103, 114, 97, 100, 101, 32, 82, 101, 113, 117, 105, 114, 101, 100]⟩), (428, ⟨#[52, 50, 56]⟩, ⟨#[80, 114, 101, 99, 111, 110, 100, 105, 116, 105, 111, 110, 32, 82, 101, 113, 117, 105, 114, 101, 100]⟩), (429, ⟨#[52, 50, 57]⟩, ⟨#[84, 111, 111, 32, 77, 97, 110, 121, 32, 82, 101, 113, 117, 101, 115, 116, 115]⟩), (431, ⟨#[52, 51, 49]⟩, ⟨#[82, 101, 113, 117, 101, 115, 116, 32, 72, 101, 97, 100, 101, 114, 32, 70, 105, 101, 108, 100, 115, 32, 84, 111, 111, 32, 76, 97, 114, 103, 101]⟩)]
set_option maxRecDepth 20000 in
set_option maxHeartbeats 2000000 in
theorem wrongReason_any (n : Int) (w : World) : Calls Tryz.prog 78 #[.int .i64 n] w fun e w' => e = .returned (.string (pickT (tabB ++ tabC) n)) ∧ w = w' := by
 by_cases h400 : n = 400
 ·subst h400
  go_enter Tryz.func78, Tryz.ntmps78
  go_wp2
  go_ret
  exact ⟨rfl, rfl⟩
 by_cases h401 : n = 401
 ·subst h401
  go_enter Tryz.func78, Tryz.ntmps78
  go_wp2
  go_ret
  exact ⟨rfl, rfl⟩
 by_cases h403 : n = 403
 ·subst h403
  go_enter Tryz.func78, Tryz.ntmps78
  go_wp2
  go_ret
  exact ⟨rfl, rfl⟩
 by_cases h404 : n = 404
 ·subst h404
  go_enter Tryz.func78, Tryz.ntmps78
  go_wp2
  go_ret
  exact ⟨rfl, rfl⟩
 by_cases h405 : n = 405
 ·subst h405
  go_enter Tryz.func78, Tryz.ntmps78
  go_wp2
  go_ret
  exact ⟨rfl, rfl⟩
 by_cases h406 : n = 406
 ·subst h406
  go_enter Tryz.func78, Tryz.ntmps78
  go_wp2
  go_ret
  exact ⟨rfl, rfl⟩
 by_cases h408 : n = 408
 ·subst h408
  go_enter Tryz.func78, Tryz.ntmps78
  go_wp2
  go_ret
  exact ⟨rfl, rfl⟩
 by_cases h411 : n = 411
 ·subst h411
  go_enter Tryz.func78, Tryz.ntmps78
  go_wp2
  go_ret
  exact ⟨rfl, rfl⟩
 by_cases h412 : n = 412
 ·subst h412
  go_enter Tryz.func78, Tryz.ntmps78
  go_wp2
  go_ret
  exact ⟨rfl, rfl⟩
 by_cases h413 : n = 413
 ·subst h413
  go_enter Tryz.func78, Tryz.ntmps78
  go_wp2
  go_ret
  exact ⟨rfl, rfl⟩
 by_cases h414 : n = 414
 ·subst h414
  go_enter Tryz.func78, Tryz.ntmps78
  go_wp2
  go_ret
  exact ⟨rfl, rfl⟩
 by_cases h415 : n = 415
 ·subst h415
  go_enter Tryz.func78, Tryz.ntmps78
  go_wp2
  go_ret
  exact ⟨rfl, rfl⟩
 by_cases h416 : n = 416
 ·subst h416
  go_enter Tryz.func78, Tryz.ntmps78
  go_wp2
  go_ret
  exact ⟨rfl, rfl⟩
 by_cases h417 : n = 417
 ·subst h417
  go_enter Tryz.func78, Tryz.ntmps78
  go_wp2
  go_ret
  exact ⟨rfl, rfl⟩
 by_cases h421 : n = 421
 ·subst h421
  go_enter Tryz.func78, Tryz.ntmps78
  go_wp2
  go_ret
  exact ⟨rfl, rfl⟩
 by_cases h422 : n = 422
 ·subst h422
  go_enter Tryz.func78, Tryz.ntmps78
  go_wp2
  go_ret
  exact ⟨rfl, rfl⟩
 by_cases h426 : n = 426
 ·subst h426
  go_enter Tryz.func78, Tryz.ntmps78
  go_wp2
  go_ret
  exact ⟨rfl, rfl⟩
 by_cases h428 : n = 428
 ·subst h428
  go_enter Tryz.func78, Tryz.ntmps78
  go_wp2
  go_ret
  exact ⟨rfl, rfl⟩
 by_cases h429 : n = 429
 ·subst h429
  go_enter Tryz.func78, Tryz.ntmps78
  go_wp2
  go_ret
  exact ⟨rfl, rfl⟩
 by_cases h431 : n = 431
 ·subst h431
  go_enter Tryz.func78, Tryz.ntmps78
  go_wp2
  go_ret
  exact ⟨rfl, rfl⟩
 have q400 : (n == 400) = false := by simpa using h400
 have q401 : (n == 401) = false := by simpa using h401
 have q403 : (n == 403) = false := by simpa using h403
 have q404 : (n == 404) = false := by simpa using h404
 have q405 : (n == 405) = false := by simpa using h405
 have q406 : (n == 406) = false := by simpa using h406
 have q408 : (n == 408) = false := by simpa using h408
 have q411 : (n == 411) = false := by simpa using h411
 have q412 : (n == 412) = false := by simpa using h412
 have q413 : (n == 413) = false := by simpa using h413
 have q414 : (n == 414) = false := by simpa using h414
 have q415 : (n == 415) = false := by simpa using h415
 have q416 : (n == 416) = false := by simpa using h416
 have q417 : (n == 417) = false := by simpa using h417
 have q421 : (n == 421) = false := by simpa using h421
 have q422 : (n == 422) = false := by simpa using h422
 have q426 : (n == 426) = false := by simpa using h426
 have q428 : (n == 428) = false := by simpa using h428
 have q429 : (n == 429) = false := by simpa using h429
 have q431 : (n == 431) = false := by simpa using h431
 have hs : ∀ x ∈ tabB, x.1 ≠ n := by
  intro x hx
  simp only [tabB, List.mem_cons, List.not_mem_nil, or_false] at hx
  rcases hx with rfl | rfl | rfl | rfl | rfl | rfl | rfl | rfl | rfl | rfl | rfl | rfl | rfl | rfl | rfl | rfl | rfl | rfl | rfl | rfl
  all_goals (intro e; simp only at e; omega)
 have HE := Lib.hid (pickT_skip (b := tabC) hs)
 clear hs h400 h401 h403 h404 h405 h406 h408 h411 h412 h413 h414 h415 h416 h417 h421 h422 h426 h428 h429 h431
 go_enter Tryz.func78, Tryz.ntmps78
 go_wp2_with fail
 refine (serverReason_any n _).mono ?_
 rintro e w1 ⟨rfl, rfl⟩
 go_wp2
 go_ret
 exact ⟨by rw [HE.out]; rfl, rfl⟩
def tabA : List (Int × ByteArray × ByteArray) := [(100, ⟨#[49, 48, 48]⟩, ⟨#[67, 111, 110, 116, 105, 110, 117, 101]⟩), (101, ⟨#[49, 48, 49]⟩, ⟨#[83, 119, 105, 116, 99, 104, 105, 110, 103, 32, 80, 114, 111, 116, 111, 99, 111, 108, 115]⟩), (200, ⟨#[50, 48, 48]⟩, ⟨#[79, 75]⟩), (201, ⟨#[50, 48, 49]⟩, ⟨#[67, 114, 101, 97, 116, 101, 100]⟩), (202, ⟨#[50, 48, 50]⟩, ⟨#[65, 99, 99, 101, 112, 116, 101, 100]⟩), (204, ⟨#[50, 48, 52]⟩, ⟨#[78, 111, 32, 67, 111, 110, 116, 101, 110, 116]⟩), (206, ⟨#[50, 48, 54]⟩, ⟨#[80, 97, 114, 116, 105, 97, 108, 32, 67, 111, 110, 116, 101, 110, 116]⟩), (301, ⟨#[51, 48, 49]⟩, ⟨#[77, 111, 118, 101, 100, 32, 80, 101, 114, 109, 97, 110, 101, 110, 116, 108, 121]⟩), (302, ⟨#[51, 48, 50]⟩, ⟨#[70, 111, 117, 110, 100]⟩), (303, ⟨#[51, 48, 51]⟩, ⟨#[83, 101, 101, 32, 79, 116, 104, 101, 114]⟩), (304, ⟨#[51, 48, 52]⟩, ⟨#[78, 111, 116, 32, 77, 111, 100, 105, 102, 105, 101, 100]⟩), (307, ⟨#[51, 48, 55]⟩, ⟨#[84, 101, 109, 112, 111, 114, 97, 114, 121, 32, 82, 101, 100, 105, 114, 101, 99, 116]⟩), (308, ⟨#[51, 48, 56]⟩, ⟨#[80, 101, 114, 109, 97, 110, 101, 110, 116, 32, 82, 101, 100, 105, 114, 101, 99, 116]⟩)]
set_option maxRecDepth 20000 in
set_option maxHeartbeats 2000000 in
theorem Reason_any (n : Int) (w : World) : Calls Tryz.prog 38 #[.int .i64 n] w fun e w' => e = .returned (.string (pickT (tabA ++ (tabB ++ tabC)) n)) ∧ w = w' := by
 by_cases h100 : n = 100
 ·subst h100
  go_enter Tryz.func38, Tryz.ntmps38
  go_wp2
  go_ret
  exact ⟨rfl, rfl⟩
 by_cases h101 : n = 101
 ·subst h101
  go_enter Tryz.func38, Tryz.ntmps38
  go_wp2
  go_ret
  exact ⟨rfl, rfl⟩
 by_cases h200 : n = 200
 ·subst h200
  go_enter Tryz.func38, Tryz.ntmps38
  go_wp2
  go_ret
  exact ⟨rfl, rfl⟩
 by_cases h201 : n = 201
 ·subst h201
  go_enter Tryz.func38, Tryz.ntmps38
  go_wp2
  go_ret
  exact ⟨rfl, rfl⟩
 by_cases h202 : n = 202
 ·subst h202
  go_enter Tryz.func38, Tryz.ntmps38
  go_wp2
  go_ret
  exact ⟨rfl, rfl⟩
 by_cases h204 : n = 204
 ·subst h204
  go_enter Tryz.func38, Tryz.ntmps38
  go_wp2
  go_ret
  exact ⟨rfl, rfl⟩
 by_cases h206 : n = 206
 ·subst h206
  go_enter Tryz.func38, Tryz.ntmps38
  go_wp2
  go_ret
  exact ⟨rfl, rfl⟩
 by_cases h301 : n = 301
 ·subst h301
  go_enter Tryz.func38, Tryz.ntmps38
  go_wp2
  go_ret
  exact ⟨rfl, rfl⟩
 by_cases h302 : n = 302
 ·subst h302
  go_enter Tryz.func38, Tryz.ntmps38
  go_wp2
  go_ret
  exact ⟨rfl, rfl⟩
 by_cases h303 : n = 303
 ·subst h303
  go_enter Tryz.func38, Tryz.ntmps38
  go_wp2
  go_ret
  exact ⟨rfl, rfl⟩
 by_cases h304 : n = 304
 ·subst h304
  go_enter Tryz.func38, Tryz.ntmps38
  go_wp2
  go_ret
  exact ⟨rfl, rfl⟩
 by_cases h307 : n = 307
 ·subst h307
  go_enter Tryz.func38, Tryz.ntmps38
  go_wp2
  go_ret
  exact ⟨rfl, rfl⟩
 by_cases h308 : n = 308
 ·subst h308
  go_enter Tryz.func38, Tryz.ntmps38
  go_wp2
  go_ret
  exact ⟨rfl, rfl⟩
 have q100 : (n == 100) = false := by simpa using h100
 have q101 : (n == 101) = false := by simpa using h101
 have q200 : (n == 200) = false := by simpa using h200
 have q201 : (n == 201) = false := by simpa using h201
 have q202 : (n == 202) = false := by simpa using h202
 have q204 : (n == 204) = false := by simpa using h204
 have q206 : (n == 206) = false := by simpa using h206
 have q301 : (n == 301) = false := by simpa using h301
 have q302 : (n == 302) = false := by simpa using h302
 have q303 : (n == 303) = false := by simpa using h303
 have q304 : (n == 304) = false := by simpa using h304
 have q307 : (n == 307) = false := by simpa using h307
 have q308 : (n == 308) = false := by simpa using h308
 have hs : ∀ x ∈ tabA, x.1 ≠ n := by
  intro x hx
  simp only [tabA, List.mem_cons, List.not_mem_nil, or_false] at hx
  rcases hx with rfl | rfl | rfl | rfl | rfl | rfl | rfl | rfl | rfl | rfl | rfl | rfl | rfl
  all_goals (intro e; simp only at e; omega)
 have HE := Lib.hid (pickT_skip (b := (tabB ++ tabC)) hs)
 clear hs h100 h101 h200 h201 h202 h204 h206 h301 h302 h303 h304 h307 h308
 go_enter Tryz.func38, Tryz.ntmps38
 go_wp2_with fail
 refine (wrongReason_any n _).mono ?_
 rintro e w1 ⟨rfl, rfl⟩
 go_wp2
 go_ret
 exact ⟨by rw [HE.out]; rfl, rfl⟩
theorem tab_parts : tabR = tabA ++ (tabB ++ tabC) := rfl
theorem message_Reason_any (n : Int) (w : World) : Calls Tryz.prog 38 #[.int .i64 n] w fun e w' => e = .returned (.string (reasonP n)) ∧ w = w' := by
 have h : reasonP n = pickT (tabA ++ (tabB ++ tabC)) n := by rw [← tab_parts]; rfl
 rw [h]
 exact Reason_any n w
end Go.Proofs.YtbnafbdhomdcoaaGreatDoor
