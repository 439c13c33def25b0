/- Out of the words that the kit prints for a seat: what this claim names. -/
import Derived.Test.YtjnpcpnjcieheaaGreatWWords
import Derived.Test.YtjnpcpnjcieheaaGreatWLast
